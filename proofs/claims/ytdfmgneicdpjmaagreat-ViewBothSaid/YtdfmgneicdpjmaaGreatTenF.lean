/- An inbox: on. -/
import Derived.Test.YtdfmgneicdpjmaaGreatTenE
namespace Go.Proofs.YtdfmgneicdpjmaaGreat
open Go.RowKit Go.Shelf
attribute [local go_sem] Oper.semAt_some
set_option linter.unusedVariables false
set_option linter.unusedSimpArgs false
set_option maxRecDepth 100000
namespace Resp

theorem mod_put_ (A : World) (l : Nat) (o' : Obj) : Mod (fun k => k = l) A (A.putObj l o') := (Mod.of_grownBy (grownBy_putObj' A l o')).mono (fun k _ h => by simpa using h)
theorem OnSt.keep {T : Nat → Prop} {W0 : World} {I B g c b1 b2 base : Nat} {idle : Int} {fr : Value} {k : Nat} {A A' : World} (h : OnSt W0 I B g c b1 b2 base idle fr k A) (hm : Mod T A A') (hT : ∀ q, T q → W0.heap.size ≤ q ∧ ¬ q = b1 ∧ ¬ q = b2) (hI : I < W0.heap.size) (hB : B < W0.heap.size) (hg : g < W0.heap.size) : OnSt W0 I B g c b1 b2 base idle fr k A' := by
  have t1 : ∀ q, q < W0.heap.size → ¬ T q := fun q hq hTq => by have := (hT q hTq).1; omega
  cases k with
  | zero =>
    obtain ⟨⟨h1, h2, h3⟩, h4, h5, h6⟩ := h
    refine ⟨⟨h1.mod hm (t1 _ hI), h2.mod hm (t1 _ hB), ownsRow_mod h3 hm (fun q hq => ?_)⟩, hm.heap h4 (fun h => (hT _ h).2.1 rfl), hm.heap h5 (fun h => (hT _ h).2.2 rfl), mod_trans_up_ h6 hm (fun q hq hTq => absurd hTq (t1 q hq))⟩
    have : g = q := by simpa [Value.ownBlock] using hq
    exact t1 q (by omega)
  | succ k =>
    obtain ⟨⟨⟨a', c', h1⟩, h2⟩, h4, h5, h6⟩ := h
    exact ⟨⟨⟨a', c', h1.mod hm (t1 _ hI)⟩, h2.mod hm (t1 _ hB)⟩, hm.heap h4 (fun h => (hT _ h).2.1 rfl), hm.heap h5 (fun h => (hT _ h).2.2 rfl), mod_trans_up_ h6 hm (fun q hq hTq => absurd hTq (t1 q hq))⟩
theorem OutRow.modLt {W W' : World} {base m : Nat} {v : Value} (h : OutRow W base v m) (hm : Mod (fun k => k < base) W W') : OutRow W' base v m := by
  obtain ⟨vs, hl, ho, he⟩ := h
  exact ⟨vs, hl, ownsRow_mod ho hm (fun g hg => Nat.not_lt.2 (ownBlock_ge_ ho hg)), fun i hi => ownsRow_mod (he i hi) hm (fun g hg => Nat.not_lt.2 (ownBlock_ge_ (he i hi) hg))⟩
theorem OutRow.put {W : World} {base m : Nat} {v : Value} (h : OutRow W base v m) {l : Nat} {o : Obj} (o' : Obj) (hl : W.heap[l]? = some o) (ho' : o.isCells = false) : OutRow (W.putObj l o') base v m := by
  obtain ⟨vs, hvl, ho, he⟩ := h
  exact ⟨vs, hvl, ownsRow_putObj ho _ hl ho', fun i hi => ownsRow_putObj (he i hi) _ hl ho'⟩
theorem keepsFrom_mod_ {S : Nat → Prop} {b : Nat} {A A' : World} (hm : Mod S A A') (hS : ∀ k o, b ≤ k → S k → A.heap[k]? = some o → o.isCells = true) : KeepsFrom b A A' :=
  ⟨hm.size, fun k o hB hk ho => (hm.block k (Array.getElem?_eq_some_iff.1 hk).1 (fun hs => by have := hS k o hB hs hk; simp [ho] at this)).trans hk⟩
theorem own_isCells_ {W : World} {base : Nat} {e : TypeId} {size : Nat} {v : Value} {n : Nat} {xs : List Value} (h : W.ownsRow base e size v n xs) {k : Nat} {o : Obj} (hk : some k = v.ownBlock) (ho : W.heap[k]? = some o) : o.isCells = true := by
  rcases h.2 with ⟨rfl, rfl⟩ | ⟨g', cap, cur, rfl, hb, hgg, rest⟩
  · cases hk
  · cases hk
    rw [hgg] at ho; cases ho; rfl
set_option maxHeartbeats 2000000 in
theorem on_one (W0 : World) (I B g c base : Nat) (idle : Int) (fa : Option Addr) (fc : Nat) (hbox : BoxAt W0 I B false (.slice (some ⟨g, 0, none⟩) 1 c) 1 0 idle) (hslot : SlotAt W0 B 0) (hrow : W0.ownsRow base 25 1 (.slice (some ⟨g, 0, none⟩) 1 c) 1 [.slice fa 1 fc]) :
    Calls Tryz.prog 181 #[.pointer (some ⟨I, 0, none⟩), .slice none 0 0] W0 fun e w' => ∃ vo, e = .returned vo ∧ OutRow w' W0.heap.size vo 1 ∧ (∃ a' c', BoxAt w' I B false (.slice a' 0 c') 1 1 idle) ∧ SlotAt w' B 1 ∧ Mod (fun k => k = I ∨ k = B ∨ k = g) W0 w' := by
  obtain ⟨i1, hi, hz0, hz1, hz2⟩ := info_parts infoBytes
  obtain ⟨r1, r2, r3, r4, hg, cs, r6⟩ := row_one_ hrow
  have hI := hbox.lt
  have hB := hslot.lt
  have HBOX := Lib.hid hbox
  have HSLOT := Lib.hid hslot
  have HROW := Lib.hid hrow
  clear r1 r2 r3 r4 r6 hbox hslot hrow
  refine (callsIn_wide (n := 6)).1 ?_
  refine callsIn_of_wp_marks Tryz.func181 rfl trivial ?_ rfl
  simp only [Tryz.ntmps181, List.size_toArray, List.length_cons, List.length_nil, Nat.reduceAdd, Nat.reduceSub, Array.replicate_succ, Array.replicate_zero, List.push_toArray, List.append_toArray, List.nil_append, List.cons_append]
  refine wpIn_wide.2 ?_
  go_upto_region 1 with fail
  have hb1 : Below W0.heap.size W0 (W0.alloc (.cells #[.slice none 0 0] 22)) := (Below.refl _ _).alloc (Nat.le_refl _) _
  have HO := Lib.hid (World.alloc_heap_new W0 (.cells #[.slice none 0 0] 22))
  have hs1 : (W0.alloc (.cells #[.slice none 0 0] 22)).heap.size = W0.heap.size + 1 := by simp
  have hm1 : Mod (fun _ => False) W0 (W0.alloc (.cells #[.slice none 0 0] 22)) := Mod.of_same hb1
  generalize W0.alloc (.cells #[.slice none 0 0] 22) = W1 at *
  have HB1 := Lib.hid (HBOX.out.mod hm1 (by simp))
  obtain ⟨c0, c1, c2, c3, c4, c5, c6⟩ := HB1.out.cells
  go_step3
  go_wp2_with fail
  go_step3
  go_wp2_with fail
  refine (begun_any I W1).mono ?_; rintro e W2 ⟨rfl, hW2⟩
  go_wp2_with fail
  have hbz : Below W1.heap.size W1 ((W1.alloc (.cells #[.pointer (some ⟨I, 0, none⟩)] 148)).alloc (.cells #[.func (.func 270) #[] #[.pointer (some ⟨W0.heap.size + 1, 0, none⟩)]] 408)) := ((Below.refl _ _).alloc (Nat.le_refl _) _).alloc (by simp) _
  have hq1 := World.alloc_heap_new W1 (.cells #[.pointer (some ⟨I, 0, none⟩)] 148)
  have hq2 := World.alloc_heap_new (W1.alloc (.cells #[.pointer (some ⟨I, 0, none⟩)] 148)) (.cells #[.func (.func 270) #[] #[.pointer (some ⟨W0.heap.size + 1, 0, none⟩)]] 408)
  have hq3 : ((W1.alloc (.cells #[.pointer (some ⟨I, 0, none⟩)] 148)).alloc (.cells #[.func (.func 270) #[] #[.pointer (some ⟨W0.heap.size + 1, 0, none⟩)]] 408)).heap[W1.heap.size]? = some (.cells #[.pointer (some ⟨I, 0, none⟩)] 148) := (Below.heap_alloc _ _ _ (by simp)).trans hq1
  rw [World.size_alloc, hs1] at hq2
  rw [hs1] at hq3
  have hsz : ((W1.alloc (.cells #[.pointer (some ⟨I, 0, none⟩)] 148)).alloc (.cells #[.func (.func 270) #[] #[.pointer (some ⟨W0.heap.size + 1, 0, none⟩)]] 408)).heap.size = W0.heap.size + 3 := by simp [hs1]
  clear hW2 hq1
  generalize (W1.alloc (.cells #[.pointer (some ⟨I, 0, none⟩)] 148)).alloc (.cells #[.func (.func 270) #[] #[.pointer (some ⟨W0.heap.size + 1, 0, none⟩)]] 408) = W3 at *
  have hm3 : Mod (fun _ => False) W1 W3 := Mod.of_same hbz
  have hm03 := hm1.trans hm3
  have HO3 := Lib.hid (hm3.heap HO.out (by simp))
  have HSZ := Lib.hid hsz
  have HST : Hid (OnSt W0 I B g c (W0.heap.size + 1) (W0.heap.size + 1 + 1) base idle (.slice fa 1 fc) 0 W3) := ⟨⟨HBOX.out.mod hm03 (by simp), HSLOT.out.mod hm03 (by simp), ownsRow_mod HROW.out hm03 (by simp)⟩, hq3, hq2, hm03.mono (by simp)⟩
  clear c0 c1 c2 c3 c4 c5 c6 hq3 hq2 hm3 hm03 hm1 hb1 hbz HO HB1 hsz hs1 HBOX HSLOT HROW
  refine (wpIn_wide (n := 6)).1 ?_
  refine wpIn_rangeFunc_st rfl (by omega) (gf := 271) (lb := #[.pointer (some ⟨W0.heap.size + 1, 0, none⟩), .pointer (some ⟨W0.heap.size + 1 + 1, 0, none⟩)]) rfl trivial (enters_of Tryz.func271 (by kernel_rfl) rfl) (fun _ => rfl)
    (begun2_st 5 (by omega) W0 I B g c (W0.heap.size + 1) (W0.heap.size + 1 + 1) base idle fa fc hI hB hg (by omega) (by omega))
    (fun k hk => by have := HSZ.out; omega)
    (fun A hA => HST.out.keep (Mod.of_below hA) (fun q hq => by have := HSZ.out; omega) hI hB hg)
    (fun k A l o o' hl hlo ho hS => hS.keep (mod_put_ A l o') (fun q hq => by have := HSZ.out; omega) hI hB hg)
    (fun k x A l o o' hl hlo ho hY => ⟨hY.1, ownsRow_putObj hY.2.1 _ hlo ho, hY.2.2.keep (mod_put_ A l o') (fun q hq => by have := HSZ.out; omega) hI hB hg⟩)
    (fun k W => ∃ vo, W.heap[W0.heap.size]? = some (.cells #[vo] 22) ∧ OutRow W W0.heap.size vo k)
    (fun k A A' hI hm => by obtain ⟨vo, h1, h2⟩ := hI; exact ⟨vo, hm.heap h1 (by omega), h2.modLt hm⟩)
    (fun k A l o o' hl hlo ho hI => by obtain ⟨vo, h1, h2⟩ := hI; exact ⟨vo, (mod_put_ A l o').heap h1 (by have := HSZ.out; omega), h2.put _ hlo ho⟩)
    ⟨_, HO3.out, [], rfl, owns_nil _ _ _ _, fun i hi => absurd hi (by simp)⟩
    (fun x => { tmps := #[.pointer (some ⟨I, 0, none⟩), .slice none 0 0, undef, .pointer (some ⟨W0.heap.size, 0, none⟩), .slice none 0 0, x, .bool true, .pointer (some ⟨I, 0, none⟩), .pointer (some ⟨I, 0, none⟩), .pointer (some ⟨I, 1, none⟩), .bool false, undef, .pointer (some ⟨I, 0, none⟩), .func (.func 271) #[] #[.pointer (some ⟨W0.heap.size + 1, 0, none⟩), .pointer (some ⟨W0.heap.size + 1 + 1, 0, none⟩)], x, .bool true, undef, undef, undef, undef, undef, undef, undef], defers := [] }) ?assign ?body ?done
  case assign =>
    intro l x W K hK
    gi_wp2
    exact hK
  case body =>
    intro l k x W hk hI' hY
    obtain rfl : k = 0 := by omega
    obtain ⟨vo, ho1, vs, hvl, hrow, hve⟩ := hI'
    obtain rfl : vs = [] := List.length_eq_zero_iff.1 hvl
    obtain ⟨ad, cd, e⟩ := ownsRow_form hrow
    subst e
    obtain ⟨⟨xa, xc, rfl⟩, hx, hst⟩ := hY
    have hc := cell_of_heap_ ho1
    have hWs : W0.heap.size < W.heap.size := (Array.getElem?_eq_some_iff.1 ho1).1
    have HROW := Lib.hid hrow
    have HO1 := Lib.hid ho1
    have HX := Lib.hid hx
    have HST1 := Lib.hid hst
    clear hrow ho1 hx hst hve
    gi_wp2_with (gi_at_builtin; refine wpListIn_append_own _ rfl _ _ 22 rfl W0.heap.size 25 i1 (.slice none 0 0) 1 24 Tryz.underlying22 hi hz0 hz1 hz2 rfl (by decide) _ _ _ rfl (HROW.out.alloc _) ⟨W.heap.size, 0, none⟩ 1 1 [.slice xa 9 xc] rfl rfl (news_one_ (by simp)) (by simp [Value.oneCell']) (by simp [maxLen]) (by decide) (Nat.le_trans (Nat.le_of_lt hWs) (by simp)) ?_; intro v' w1 hown' hgrow _; obtain ⟨oa, oc, e⟩ := owns_form_pos_ hown' (by decide); subst e; have HOWN := Lib.hid hown'; have hgr' : (W.alloc (.cells #[.slice xa 9 xc] 25)).grownBy w1 (Value.slice ad 0 cd).ownBlock := hgrow; have HM1 := Lib.hid (((Mod.refl _ W).alloc _).trans (Mod.of_grownBy hgr')); have HQ1 := Lib.hid (HM1.out.heap HO1.out (own_other_ HROW.out HO1.out (by decide))); have q0 := cell_of_heap_ HQ1.out; have qf : w1.frozen? ⟨W0.heap.size, 0, none⟩ = false := (by simp [World.frozen?, HQ1.out]); clear hown' hgrow hgr')
    have hms := mod_set_ w1 W0.heap.size 0 (.slice (some ⟨oa, 0, none⟩) 1 oc)
    have hmt : Mod (fun k => some k = (Value.slice ad 0 cd).ownBlock ∨ k = W0.heap.size) W (w1.setCell ⟨W0.heap.size, 0, none⟩ (.slice (some ⟨oa, 0, none⟩) 1 oc)) := (HM1.out.mono (fun _ _ h => .inl h)).trans (hms.mono (fun _ _ h => .inr h))
    have hst := HST1.out
    obtain ⟨-, hp1, hp2, -⟩ := HST1.out
    refine ⟨keepsFrom_mod_ hmt ?_, ⟨.slice (some ⟨oa, 0, none⟩) 1 oc, ?_, [.slice xa 9 xc], rfl, ?_, ?_⟩, hst.keep hmt ?_ hI hB hg⟩
    · rintro q o hq (h | h) ho
      · exact own_isCells_ HROW.out h ho
      · have := HSZ.out; omega
    · have := heap_set_ HQ1.out 0 (.slice (some ⟨oa, 0, none⟩) 1 oc)
      simpa using this
    · exact owns_keep_at_ HOWN.out HQ1.out hms (by decide)
    · intro i hi
      obtain rfl : i = 0 := by simpa using hi
      exact owns_keep_at_ (owns_keep_ HX.out HROW.out HM1.out (by decide)) HQ1.out hms (by decide)
    · rintro q (h | h)
      · exact ⟨ownBlock_ge_ HROW.out h.symm, fun e => own_other_ HROW.out hp1 (by decide) (by rw [← e]; exact h), fun e => own_other_ HROW.out hp2 (by decide) (by rw [← e]; exact h)⟩
      · omega
  case done =>
    intro D W hD hI' hS hK
    obtain ⟨vo, ho1, hrow⟩ := hI'
    have hc := cell_of_heap_ ho1
    obtain ⟨⟨hbx, hsl⟩, -, -, hm⟩ := hS
    simp only [Exit.inBlock, Exit.then]
    have HROW := Lib.hid hrow
    have HBX := Lib.hid hbx
    have HSL := Lib.hid hsl
    have HM := Lib.hid hm
    have HK := Lib.hid hK
    clear hrow hbx hsl hm hK ho1
    go_wp2_with fail
    rw [Exit.noGoto_ret]
    refine ⟨by simp, .inl ⟨_, _, rfl, run_takeDeferred HK.out, ?_⟩⟩
    have hmp := mod_put_ W D (.deferred none)
    have hDn : ∀ q, q < W0.heap.size → ¬ q = D := fun q hq e => by have := HSZ.out; omega
    obtain ⟨a', c', hbx⟩ := HBX.out
    exact ⟨_, results_tmp rfl _ _ _, vo, rfl, HROW.out.put _ HK.out rfl, ⟨a', c', hbx.mod hmp (hDn _ hI)⟩, HSL.out.mod hmp (hDn _ hB), mod_trans_up_ HM.out hmp (fun q hq e => absurd e (hDn q hq))⟩
end Resp
end Go.Proofs.YtdfmgneicdpjmaaGreat
