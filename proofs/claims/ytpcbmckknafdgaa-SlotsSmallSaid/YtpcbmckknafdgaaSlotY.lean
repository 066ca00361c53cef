/- The reference of layer 9: Give, whatever is given; Next, Counts, Clear. -/
import Derived.Test.YtpcbmckknafdgaaSlotX
import Derived.Test.YtpcbmckknafdgaaSlotN
namespace Go.Proofs.Ytpcbmckknafdgaa
open Go.RowKit Go.Shelf
set_option linter.unusedVariables false
set_option linter.unusedSimpArgs false
set_option maxRecDepth 100000
namespace Slot

theorem next_full' {T : Tab} (h : T.free = []) : nextT T = ((0, 0), false) ∧ takeT T = (T, (0, 0), 4) := ⟨by rw [nextT, h], takeT_nil h⟩
theorem next_yes' {T : Tab} (h : T.free ≠ []) : nextT T = ((takeT T).2.1, true) := by
  cases hf : T.free with
  | nil => exact absurd hf h
  | cons i r => rw [nextT, takeT, hf]
theorem GiveR_any (base : Nat → Prop) (n : Nat) (T : Tab) (vl vf vt : Value) (a b : Int) (w : World) (h : StateS base w vl vf vt n T) (hv : Valid n T) (hbase : ∀ g, w.heap.size ≤ g → base g) :
    Calls Try.prog 42 #[.agg #[vl, .int .i64 T.most, vf, vt], .agg #[.int .i64 a, .int .i64 b]] w fun e w' => ∃ vl' vf' vt', e = .returned (.tuple #[.agg #[vl', .int .i64 T.most, vf', vt'], .int .i64 (giveT n T (a, b)).2]) ∧ StateS base w' vl' vf' vt' n (giveT n T (a, b)).1 ∧ Below w.heap.size w w' := by
  cases hl : liveT n T (a, b) with
  | false =>
    refine (GiveR_no base n T vl vf vt a b w h.s hv hbase hl).mono ?_
    rintro e w' ⟨rfl, hb⟩
    rw [giveT_no hl]
    exact ⟨vl, vf, vt, rfl, h.below hb, hb⟩
  | true =>
    obtain ⟨i, rfl, hi, htk, hlb⟩ := live_of hl
    obtain ⟨bf, off, cf, hvf⟩ := h.f (by omega)
    refine (GiveR_yes base n T vl vf vt i b w h.s hv hbase hi htk hlb bf off cf hvf).mono ?_
    rintro e w' ⟨vl', vf', vt', rfl, hs, hf', hb⟩
    exact ⟨vl', vf', vt', by rw [give_ok hl], ⟨hs, fun _ => hf'⟩, hb⟩

theorem nextR_results {W : World} {R : Nat} {a b : Int} {d : Bool} {tmps : Array Value} (h : RefAtR W R a b) (e1 : tmps[2]? = some (.pointer (some ⟨R, 0, none⟩))) (e3 : tmps[3]? = some (.bool d)) :
    (results Try.f46 tmps).run Try.prog W = .ok (.tuple #[.agg #[.int .i64 a, .int .i64 b], .bool d]) W := by
  have c0 := h.c0
  have c1 := h.c1
  simp [results, Try.results46, go_sem, e1, e3, c0, c1]

set_option maxHeartbeats 4000000 in
theorem NextR_any (base : Nat → Prop) (n : Nat) (T : Tab) (vl vf vt : Value) (w : World) (h : StateS base w vl vf vt n T) (hv : Valid n T) (hbase : ∀ g, w.heap.size ≤ g → base g) :
    Calls Try.prog 46 #[.agg #[vl, .int .i64 T.most, vf, vt]] w fun e w' => e = .returned (.tuple #[.agg #[.int .i64 (nextT T).1.1, .int .i64 (nextT T).1.2], .bool (nextT T).2]) ∧ Below w.heap.size w w' := by
  have hB : Below w.heap.size w ((w.alloc (.cells #[vl, .int .i64 T.most, vf, vt] 67)).alloc (.cells #[.int .i64 0, .int .i64 0] 88)) := ((Below.refl _ w).alloc (Nat.le_refl _) _).alloc (by simp) _
  have hr : RefAtR ((w.alloc (.cells #[vl, .int .i64 T.most, vf, vt] 67)).alloc (.cells #[.int .i64 0, .int .i64 0] 88)) (w.heap.size + 1) 0 0 := by have := World.alloc_heap_new (w.alloc (.cells #[vl, .int .i64 T.most, vf, vt] 67)) (.cells #[.int .i64 0, .int .i64 0] 88); simpa [RefAtR] using this
  have h1 := h.below hB
  have hnt : nextT T = ((takeT T).2.1, (takeT T).2.2 == 0) := by
    by_cases hf : T.free = []
    · obtain ⟨e1, e2⟩ := next_full' hf
      rw [e1, e2]; rfl
    · rw [next_yes' hf, take_err.1.2 hf]; rfl
  go_enter Try.func46, Try.ntmps46
  go_wp2_with fail
  have HNT := Lib.hid hnt
  generalize (w.alloc (.cells #[vl, .int .i64 T.most, vf, vt] 67)).alloc (.cells #[.int .i64 0, .int .i64 0] 88) = x0 at *
  have HB := Lib.hid hB
  have HR := Lib.hid hr
  clear h hnt hB hr
  refine (TakeR_any base n T vl vf vt _ h1 hv (fun g hg => hbase g (Nat.le_trans HB.out.size hg))).mono ?_
  rintro e w1 ⟨vl', vf', vt', rfl, hs', hb1⟩
  obtain ⟨al, cl, e⟩ := hs'.s.lives.form
  obtain ⟨af, cf, e'⟩ := hs'.s.free.form
  obtain ⟨at_, ct, e''⟩ := hs'.s.taken.form
  subst e e' e''
  clear hs'
  generalize (takeT T).2 = res at *
  generalize (takeT T).1.free.length = F at *
  obtain ⟨⟨ra, rb⟩, er⟩ := res
  dsimp only
  have bl : Below w1.heap.size w1 ((w1.alloc (.cells #[.slice al n cl, .int .i64 T.most, .slice af F cf, .slice at_ n ct] 67)).alloc (.cells #[.int .i64 ra, .int .i64 rb] 88)) := ((Below.refl _ w1).alloc (Nat.le_refl _) _).alloc (by simp) _
  have hr1 : RefAtR w1 (w.heap.size + 1) 0 0 := (hb1.block _ HR.out.lt).trans HR.out
  have HR2 := Lib.hid (show RefAtR ((w1.alloc (.cells #[.slice al n cl, .int .i64 T.most, .slice af F cf, .slice at_ n ct] 67)).alloc (.cells #[.int .i64 ra, .int .i64 rb] 88)) (w.heap.size + 1) 0 0 from (bl.block _ hr1.lt).trans hr1)
  have HRR := Lib.hid (show RefAtR ((w1.alloc (.cells #[.slice al n cl, .int .i64 T.most, .slice af F cf, .slice at_ n ct] 67)).alloc (.cells #[.int .i64 ra, .int .i64 rb] 88)) (w1.heap.size + 1) ra rb from by have := World.alloc_heap_new (w1.alloc (.cells #[.slice al n cl, .int .i64 T.most, .slice af F cf, .slice at_ n ct] 67)) (.cells #[.int .i64 ra, .int .i64 rb] 88); simpa [RefAtR] using this)
  have hsz := HB.out.size
  have HBB := Lib.hid ((HB.out.trans (hb1.mono hsz)).trans (bl.mono (Nat.le_trans hsz hb1.size)))
  clear hr1 bl hb1 hsz HR
  go_upto_region 2 with (fail)
  generalize ((w1.alloc (.cells #[.slice al n cl, .int .i64 T.most, .slice af F cf, .slice at_ n ct] 67)).alloc (.cells #[.int .i64 ra, .int .i64 rb] 88)) = W2 at *
  have f0 := HR2.out.frozen 0
  have f1 := HR2.out.frozen 1
  have r0 := HR2.out.c0
  have r1 := HR2.out.c1
  have d0 := HRR.out.c0
  have d1 := HRR.out.c1
  have HS := Lib.hid (HR2.out.set ra rb)
  have HM := Lib.hid (Mod.setCell (S := fun k => k = w.heap.size + 1) (p := ⟨w.heap.size + 1, 1, none⟩) (Mod.setCell (S := fun k => k = w.heap.size + 1) (p := ⟨w.heap.size + 1, 0, none⟩) (Mod.refl _ W2) (.inr rfl) (.int .i64 ra)) (.inr rfl) (.int .i64 rb))
  go_wp2_with fail
  refine bodyPost_ret (v := .tuple #[.agg #[.int .i64 ra, .int .i64 rb], .bool (er == 0)]) (nextR_results HS.out rfl rfl) rfl ?_
  rw [HNT.out]
  exact ⟨rfl, HBB.out.trans (HM.out.below HBB.out.size (fun k hk e => by omega))⟩

theorem CountsR_any (base : Nat → Prop) (n : Nat) (T : Tab) (vl vf vt : Value) (w : World) (h : StateS base w vl vf vt n T) (hv : Valid n T) (hbase : ∀ g, w.heap.size ≤ g → base g) :
    Calls Try.prog 45 #[.agg #[vl, .int .i64 T.most, vf, vt]] w fun e w' => e = .returned (.tuple #[.int .i64 (countsT n T).1, .int .i64 (countsT n T).2.1, .int .i64 (countsT n T).2.2]) ∧ Below w.heap.size w w' := by
  have hn := hv.n
  have hfl := free_le hv
  have hrl := refs_le n T
  have hB : Below w.heap.size w (w.alloc (.cells #[vl, .int .i64 T.most, vf, vt] 67)) := (Below.refl _ w).alloc (Nat.le_refl _) _
  have hb : BoxS (w.alloc (.cells #[vl, .int .i64 T.most, vf, vt] 67)) w.heap.size vl T.most vf vt := World.alloc_heap_new w _
  have h1 := h.s.below hB
  have HCT : Hid (countsT n T = (((refsT n T).length : Int), (T.free.length : Int), (n : Int) - (refsT n T).length - T.free.length)) := rfl
  obtain ⟨al, cl, e⟩ := h.s.lives.form
  obtain ⟨af, cf, e'⟩ := h.s.free.form
  subst e e'
  go_enter Try.func45, Try.ntmps45
  go_wp2_with fail
  refine (RefsR_any base n T _ _ _ _ h1 hv).mono ?_
  rintro e w1 ⟨v, rfl, hr, hb1⟩
  obtain ⟨a1, c1, rfl⟩ := ownsRow_val hr
  have hbx := (hb1.block _ hb.lt).trans hb
  have q0 := BoxS.c0 hbx
  have q2 := BoxS.c2 hbx
  have HBB := Lib.hid (hB.trans (hb1.mono hB.size))
  clear h h1 hb hbx hB hr hb1
  generalize (refsT n T).length = L at *
  generalize T.free.length = F at *
  go_wp2_with fail
  have w1e : IntKind.i64.wrap ((n : Int) - (L : Int)) = (n : Int) - L := IntWalk.i64_in _ (by omega)
  have w2e : IntKind.i64.wrap ((n : Int) - (L : Int) - (F : Int)) = (n : Int) - L - F := IntWalk.i64_in _ (by omega)
  go_quiet (fail)
  clear w1e w2e
  go_wp2
  go_ret3
  exact ⟨by rw [HCT.out]; rfl, below_drewN HBB.out _⟩
theorem giveAll_valid {n : Nat} : ∀ (l : List R) (T : Tab), Valid n T → Valid n (giveAll n T l) ∧ (giveAll n T l).most = T.most
  | [], T, h => ⟨h, rfl⟩
  | r :: l, T, h => by
    have h1 : Valid n (giveT n T r).1 := by
      cases hl : liveT n T r with
      | false => rw [giveT_no hl]; exact h
      | true => exact give_valid (a := r.1) (b := r.2) h hl
    obtain ⟨h2, h3⟩ := giveAll_valid l _ h1
    exact ⟨h2, h3.trans (give_most n T r)⟩
theorem clearR_results {W : World} {R : Nat} {vl vf vt : Value} {k e : Int} {tmps : Array Value} (h : BoxS W R vl k vf vt) (e1 : tmps[2]? = some (.pointer (some ⟨R, 0, none⟩))) (e3 : tmps[3]? = some (.int .i64 e)) :
    (results Try.f44 tmps).run Try.prog W = .ok (.tuple #[.agg #[vl, .int .i64 k, vf, vt], .int .i64 e]) W := by
  have c0 := h.c0
  have c1 := h.c1
  have c2 := h.c2
  have c3 := h.c3
  simp [results, Try.results44, go_sem, e1, e3, c0, c1, c2, c3]

set_option maxHeartbeats 4000000 in
theorem ClearR_any (base : Nat → Prop) (n : Nat) (T : Tab) (vl vf vt : Value) (w : World) (h : StateS base w vl vf vt n T) (hv : Valid n T) (hbase : ∀ g, w.heap.size ≤ g → base g) :
    Calls Try.prog 44 #[.agg #[vl, .int .i64 T.most, vf, vt]] w fun e w' => ∃ vl' vf' vt', e = .returned (.tuple #[.agg #[vl', .int .i64 T.most, vf', vt'], .int .i64 (refsT n T).length]) ∧ StateS base w' vl' vf' vt' n (clearT n T) ∧ Below w.heap.size w w' := by
  have hn := hv.n
  have hrl := refs_le n T
  have hB : Below w.heap.size w ((w.alloc (.cells #[vl, .int .i64 T.most, vf, vt] 67)).alloc (.cells #[.slice none 0 0, .int .i64 0, .slice none 0 0, .slice none 0 0] 67)) := ((Below.refl _ w).alloc (Nat.le_refl _) _).alloc (by simp) _
  have hb : BoxS ((w.alloc (.cells #[vl, .int .i64 T.most, vf, vt] 67)).alloc (.cells #[.slice none 0 0, .int .i64 0, .slice none 0 0, .slice none 0 0] 67)) w.heap.size vl T.most vf vt := (Below.heap_alloc _ _ _ (by simp)).trans (World.alloc_heap_new w _)
  have hr : BoxS ((w.alloc (.cells #[vl, .int .i64 T.most, vf, vt] 67)).alloc (.cells #[.slice none 0 0, .int .i64 0, .slice none 0 0, .slice none 0 0] 67)) (w.heap.size + 1) (.slice none 0 0) 0 (.slice none 0 0) (.slice none 0 0) := by have := World.alloc_heap_new (w.alloc (.cells #[vl, .int .i64 T.most, vf, vt] 67)) (.cells #[.slice none 0 0, .int .i64 0, .slice none 0 0, .slice none 0 0] 67); simpa [BoxS] using this
  have h1 : StateS (fun g => base g ∧ g ≠ w.heap.size ∧ g ≠ w.heap.size + 1) ((w.alloc (.cells #[vl, .int .i64 T.most, vf, vt] 67)).alloc (.cells #[.slice none 0 0, .int .i64 0, .slice none 0 0, .slice none 0 0] 67)) vl vf vt n T := (h.imp (base' := fun g => base g ∧ g ≠ w.heap.size ∧ g ≠ w.heap.size + 1) (fun g hg hl => ⟨hg, by omega, by omega⟩)).below hB
  clear h
  have HCL : Hid (clearT n T = giveAll n T ((refsT n T).take (refsT n T).length)) := by rw [Hid, List.take_length]; rfl
  go_enter Try.func44, Try.ntmps44
  go_wp2_with fail
  generalize ((w.alloc (.cells #[vl, .int .i64 T.most, vf, vt] 67)).alloc (.cells #[.slice none 0 0, .int .i64 0, .slice none 0 0, .slice none 0 0] 67)) = x0 at *
  refine (RefsR_any _ n T _ _ _ _ h1.s hv).mono ?_
  rintro e w1 ⟨v, rfl, hrow, hb1⟩
  have hrr := ReadsRefs.of_owns hrow
  obtain ⟨a1, c1, rfl⟩ := ownsRow_val hrow
  have HLEN : Hid ((refsT n T).length = (refsT n T).length) := rfl
  have hst : StateS (fun g => base g ∧ g ≠ w.heap.size ∧ g ≠ w.heap.size + 1) w1 vl vf vt n (giveAll n T ((refsT n T).take 0)) := h1.below hb1
  have hbx := (hb1.block _ hb.lt).trans hb
  have hrx := (hb1.block _ hr.lt).trans hr
  have hBB := hB.trans (hb1.mono hB.size)
  have hlt0 := hr.lt
  have hsz1 := hb1.size
  have HZ := Lib.hid (show w.heap.size + 1 < x0.heap.size ∧ x0.heap.size ≤ w1.heap.size from ⟨hlt0, hsz1⟩)
  generalize hLe : (refsT n T).length = L at *
  have HL := Lib.hid hLe
  clear hLe h1 hb hr hB hb1 hrow hlt0 hsz1 HLEN
  go_wp2_with fail
  go_loopw [5] (fun i wr => ∃ (j : Nat) (ul uf ut : Value), j ≤ L ∧ i = .int .i64 j ∧ BoxS wr w.heap.size ul T.most uf ut ∧ BoxS wr (w.heap.size + 1) (.slice none 0 0) 0 (.slice none 0 0) (.slice none 0 0) ∧ StateS (fun g => base g ∧ g ≠ w.heap.size ∧ g ≠ w.heap.size + 1) wr ul uf ut n (giveAll n T ((refsT n T).take j)) ∧ ReadsRefs x0.heap.size wr (.slice a1 L c1) (refsT n T) ∧ Below w.heap.size w wr ∧ x0.heap.size ≤ wr.heap.size) (fun i _ => L - (intOf i).toNat)
  case atStart => exact ⟨0, vl, vf, vt, Nat.zero_le _, rfl, hbx, hrx, hst, hrr, hBB, HZ.out.2⟩
  case round =>
    clear hbx hrx hst hrr hBB
    obtain ⟨j, ul, uf, ut, hj, rfl, hbx, hrx, hst, hrr, hBB, hsz⟩ := hrel
    obtain ⟨wo, rfl⟩ : ∃ wo : World, wo = wr := ⟨_, rfl⟩
    obtain ⟨al, cl, e⟩ := hst.s.lives.form
    obtain ⟨af, cf, e'⟩ := hst.s.free.form
    obtain ⟨at_, ct, e''⟩ := hst.s.taken.form
    subst e e' e''
    have q0 := BoxS.c0 hbx
    have q1 := BoxS.c1 hbx
    have q2 := BoxS.c2 hbx
    have q3 := BoxS.c3 hbx
    by_cases hlt : j < L
    · have hltI : (j : Int) < L := by omega
      rcases hrr with ⟨a', c', e, hnil⟩ | ⟨b', c', e, hb', hbl, hc⟩
      · injection e with _ e _; omega
      · injection e with e1 e2 e3
        subst e1
        have hjr : j < (refsT n T).length := by rw [HL.out]; exact hlt
        have hc0 := hc
        obtain ⟨k0, k1⟩ := hc j hjr
        obtain ⟨hv1, hm1⟩ := giveAll_valid ((refsT n T).take j) T hv
        have HST := Lib.hid (giveAll_take (n := n) (T := T) hjr)
        have HCC := Lib.hid hc0
        generalize giveAll n T ((refsT n T).take j) = T1 at *
        generalize (refsT n T)[j]?.getD (0, 0) = r at *
        obtain ⟨r1, r2⟩ := r
        dsimp only at k0 k1
        generalize T1.free.length = F1 at *
        have C : ∀ W' : World, StateS (fun g => base g ∧ g ≠ w.heap.size ∧ g ≠ w.heap.size + 1) W' (.slice al n cl) (.slice af F1 cf) (.slice at_ n ct) n T1 → x0.heap.size ≤ W'.heap.size →
            Calls Try.prog 42 #[.agg #[.slice al n cl, .int .i64 T.most, .slice af F1 cf, .slice at_ n ct], .agg #[.int .i64 r1, .int .i64 r2]] W' fun e w' => ∃ vl' vf' vt', e = .returned (.tuple #[.agg #[vl', .int .i64 T.most, vf', vt'], .int .i64 (giveT n T1 (r1, r2)).2]) ∧ StateS (fun g => base g ∧ g ≠ w.heap.size ∧ g ≠ w.heap.size + 1) w' vl' vf' vt' n (giveT n T1 (r1, r2)).1 ∧ Below W'.heap.size W' w' := by
          intro W' hs hz
          have := GiveR_any (fun g => base g ∧ g ≠ w.heap.size ∧ g ≠ w.heap.size + 1) n T1 _ _ _ r1 r2 W' hs hv1 (fun g hg => ⟨hbase g (by have := HZ.out; omega), by have := HZ.out; omega, by have := HZ.out; omega⟩)
          rw [hm1] at this
          exact this
        have HC := Lib.hid C
        have HV1 := Lib.hid hv1
        have HBX := Lib.hid hbx
        have HRX := Lib.hid hrx
        have HS := Lib.hid (hst.mod (S := fun _ => False) (Mod.drew (Mod.refl (fun _ => False) wo)) (by simp))
        have HBB := Lib.hid hBB
        have HSZ := Lib.hid hsz
        have HBL := Lib.hid (show x0.heap.size ≤ b' ∧ b' < wo.heap.size from ⟨hb', hbl⟩)
        clear C hv1 hm1 hbx hrx hst hBB hsz hc hc0 hb' hbl e2 e3 hv hjr
        go_wp2_with fail
        go_region_with (go_at_call 42; go_loud (refine (HC.out _ (by exact HS.out) (by exact HSZ.out)).mono ?_; rintro e w2 ⟨ul', uf', ut', rfl, hs2, hb2⟩; obtain ⟨al2, cl2, g1⟩ := hs2.s.lives.form; obtain ⟨af2, cf2, g2⟩ := hs2.s.free.form; obtain ⟨at2, ct2, g3⟩ := hs2.s.taken.form; subst g1 g2 g3; have hbx2 : BoxS w2 w.heap.size (.slice al n cl) T.most (.slice af F1 cf) (.slice at_ n ct) := (hb2.block _ (by exact HBX.out.lt)).trans HBX.out; have p0 := hbx2.c0; have p1 := hbx2.c1; have p2 := hbx2.c2; have p3 := hbx2.c3; have f0 := hbx2.frozen 0; have f1 := hbx2.frozen 1; have f2 := hbx2.frozen 2; have f3 := hbx2.frozen 3; have HS2 := Lib.hid hs2; have HB2 := Lib.hid hb2; have HBX2 := Lib.hid hbx2; clear hs2 hb2 hbx2))
        all_goals (
          have hb2' : Below wo.heap.size wo w2 := below_of_drew HB2.out
          have y1 := HBX2.out.set4 (al := .slice al2 n cl2) (j := T.most) (af := .slice af2 (giveT n T1 (r1, r2)).1.free.length cf2) (at_ := .slice at2 n ct2)
          have m := mod4 w2 w.heap.size (.slice al2 n cl2) (.int .i64 T.most) (.slice af2 (giveT n T1 (r1, r2)).1.free.length cf2) (.slice at2 n ct2)
          have y2 : BoxS w2 (w.heap.size + 1) (.slice none 0 0) 0 (.slice none 0 0) (.slice none 0 0) := (hb2'.block _ HRX.out.lt).trans HRX.out
          have y3 := y2.mod m (by omega)
          have y4 := HS2.out.mod m (fun g hg => hg.2.1)
          have y5 := (HBB.out.trans (hb2'.mono HBB.out.size)).trans (m.below (Nat.le_trans HBB.out.size hb2'.size) (fun k hk e => by omega))
          have y6 : ReadsRefs x0.heap.size wo (.slice (some ⟨b', 0, none⟩) L c1) (refsT n T) := .inr ⟨b', c1, by rw [HL.out], HBL.out.1, HBL.out.2, HCC.out⟩
          have y7 := (y6.below hb2').mod m (fun g hg e => by have := HZ.out; omega)
          have y8 : x0.heap.size ≤ ((((w2.setCell ⟨w.heap.size, 0, none⟩ (.slice al2 n cl2)).setCell ⟨w.heap.size, 1, none⟩ (.int .i64 T.most)).setCell ⟨w.heap.size, 2, none⟩ (.slice af2 (giveT n T1 (r1, r2)).1.free.length cf2)).setCell ⟨w.heap.size, 3, none⟩ (.slice at2 n ct2)).heap.size := Nat.le_trans (Nat.le_trans HSZ.out hb2'.size) m.size
          have Y1 := Lib.hid y1
          have Y3 := Lib.hid y3
          have Y4 := Lib.hid y4
          have Y5 := Lib.hid y5
          have Y7 := Lib.hid y7
          have Y8 := Lib.hid y8
          clear y1 y2 y3 y4 y5 y6 y7 y8 m hb2'
          go_wp2_with fail
          go_roundw
          case rel => exact ⟨j + 1, _, _, _, by omega, by go_num, Y1.out, Y3.out, by rw [HST.out]; exact Y4.out, Y7.out, Y5.out, Y8.out⟩
          case measure => simp [intOf]; omega)
    · obtain rfl : L = j := by omega
      have r0 := BoxS.c0 hrx
      have r1 := BoxS.c1 hrx
      have r2 := BoxS.c2 hrx
      have r3 := BoxS.c3 hrx
      have f0 := BoxS.frozen hrx 0
      have f1 := BoxS.frozen hrx 1
      have f2 := BoxS.frozen hrx 2
      have f3 := BoxS.frozen hrx 3
      have hst' : StateS (fun g => base g ∧ g ≠ w.heap.size ∧ g ≠ w.heap.size + 1) wo (.slice al n cl) (.slice af (giveAll n T ((refsT n T).take L)).free.length cf) (.slice at_ n ct) n (giveAll n T ((refsT n T).take L)) := hst
      generalize giveAll n T ((refsT n T).take L) = T1 at *
      generalize hF1 : T1.free.length = F1 at *
      have HF1 := Lib.hid hF1
      clear hF1
      have HX := Lib.hid (BoxS.set4 hrx (al := .slice al n cl) (j := T.most) (af := .slice af F1 cf) (at_ := .slice at_ n ct))
      have HM := Lib.hid (mod4 wo (w.heap.size + 1) (.slice al n cl) (.int .i64 T.most) (.slice af F1 cf) (.slice at_ n ct))
      have HST := Lib.hid hst'
      have HBB := Lib.hid hBB
      clear hst hst' hbx hrx hrr hBB hsz hlt hj
      go_wp2_with fail
      refine bodyPost_ret (v := .tuple #[.agg #[.slice al n cl, .int .i64 T.most, .slice af F1 cf, .slice at_ n ct], .int .i64 L]) (clearR_results HX.out rfl rfl) rfl ?_
      rw [HCL.out]
      exact ⟨_, _, _, by rw [HL.out], (HST.out.mod HM.out (fun g hg => hg.2.2)).imp (fun g hg _ => hg.1), HBB.out.trans (HM.out.below HBB.out.size (fun k hk e => by omega))⟩
end Slot
end Go.Proofs.Ytpcbmckknafdgaa
