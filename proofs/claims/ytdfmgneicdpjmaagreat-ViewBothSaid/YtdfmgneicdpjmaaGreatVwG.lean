import Derived.Test.YtdfmgneicdpjmaaGreatVwF
import Derived.Test.YtdfmgneicdpjmaaGreatVwD
import Derived.Test.YtdfmgneicdpjmaaGreatVwE
import Derived.Test.YtdfmgneicdpjmaaGreatVwB
import Derived.BigQuiet
/- Mix, Agree and Alike: one contract each; the reference's Agree. -/
namespace Go.Proofs.YtdfmgneicdpjmaaGreat
open Go.RowKit Go.Shelf
attribute [local go_sem] Oper.semAt_some
set_option linter.unusedVariables false
set_option linter.unusedSimpArgs false
set_option maxRecDepth 100000
namespace View
open Resp

def mixE (es fs : List Ent) (zs : List Int) : Int := if wrg2 0 es fs = 0 then (if atOk es.length fs.length zs = true then (if es.length + fs.length ≤ 4000 then 0 else 5) else 2) else wrg2 0 es fs
def mixV (es fs : List Ent) (zs : List Int) : List Ent := if mixE es fs zs = 0 then mixP 0 es (fs.zip zs) else []
theorem Mix_all (a b za : Option Addr) (zn c d zc : Nat) (es fs : List Ent) (zs : List Int) (W : World) (h : ScrAt W a es.length es) (h2 : ScrAt W b fs.length fs) (hn : es.length ≤ maxLen) (hm : fs.length ≤ d) (hd : d ≤ maxLen) (hz : Reads .i64 W (.slice za zn zc) zs) (hzl : zs.length ≤ 1000000) :
    Calls Tryz.prog 23 #[.slice a es.length c, .slice b fs.length d, .slice za zn zc] W fun e w' => ∃ v, e = .returned (.tuple #[v, .int .i64 (mixE es fs zs)]) ∧ OwnScr w' W.heap.size v (mixV es fs zs) ∧ Below W.heap.size W w' := by
  have hmm : fs.length ≤ maxLen := by omega
  by_cases h0 : wrg2 0 es fs = 0
  · cases ha : atOk es.length fs.length zs with
    | false =>
      have hE : mixE es fs zs = 2 := by rw [mixE, if_pos h0, ha]; rfl
      have hV : mixV es fs zs = [] := by rw [mixV, hE]; rfl
      rw [hE, hV]
      exact (Mix_arg a b za _ _ zn c d zc es fs zs W h h2 hn hmm hz hzl h0 ha).mono fun e w' ⟨he, hb⟩ => ⟨_, he, OwnScr.nil _ _, hb⟩
    | true =>
      by_cases hs : es.length + fs.length ≤ 4000
      · have hE : mixE es fs zs = 0 := by rw [mixE, if_pos h0, ha, if_pos rfl, if_pos hs]
        have hV : mixV es fs zs = mixP 0 es (fs.zip zs) := by rw [mixV, hE]; rfl
        rw [hE, hV]
        exact Mix_yes a b za _ _ zn c d zc es fs zs W h h2 hn hm hd hz h0 ha hs
      · have hE : mixE es fs zs = 5 := by rw [mixE, if_pos h0, ha, if_pos rfl, if_neg hs]
        have hV : mixV es fs zs = [] := by rw [mixV, hE]; rfl
        rw [hE, hV]
        exact (Mix_many a b za _ _ zn c d zc es fs zs W h h2 hn hm hd hz h0 ha (by omega)).mono fun e w' ⟨he, hb⟩ => ⟨_, he, OwnScr.nil _ _, hb⟩
  · have hE : mixE es fs zs = wrg2 0 es fs := by rw [mixE, if_neg h0]
    have hV : mixV es fs zs = [] := by rw [mixV, hE, if_neg h0]
    rw [hE, hV]
    exact (Mix_no a b za _ _ zn c d zc es fs W h h2 hn hmm _ rfl h0).mono fun e w' ⟨he, hb⟩ => ⟨_, he, OwnScr.nil _ _, hb⟩
def agrB (slot : Int) (es fs : List Ent) : Bool := decide (wrg2 slot es fs = 0) && decide (framesL slot es = framesL slot fs)
theorem Agree_all (slot : Int) (a b : Option Addr) (c d : Nat) (es fs : List Ent) (W : World) (h : ScrAt W a es.length es) (h2 : ScrAt W b fs.length fs) (hn : es.length ≤ maxLen) (hm : fs.length ≤ maxLen) :
    Calls Tryz.prog 27 #[.slice a es.length c, .slice b fs.length d, .int .i64 slot] W fun e w' => e = .returned (.tuple #[.bool (agrB slot es fs), .int .i64 (wrg2 slot es fs)]) ∧ Below W.heap.size W w' := by
  by_cases h0 : wrg2 slot es fs = 0
  · have hB : agrB slot es fs = decide (framesL slot es = framesL slot fs) := by rw [agrB, decide_eq_true h0]; rfl
    rw [hB, h0]
    exact Agree_yes slot a b _ _ c d es fs W h h2 hn hm h0
  · have hB : agrB slot es fs = false := by rw [agrB, decide_eq_false h0]; rfl
    rw [hB]
    exact Agree_no slot a b _ _ c d es fs W h h2 hn hm _ rfl h0
def alkE (n slot : Int) (es fs : List Ent) : Int := if wrg2 slot es fs = 0 then (if n < 1 ∨ 8 < n ∨ n ≤ slot then 2 else 0) else wrg2 slot es fs
def alkB (n slot : Int) (es fs : List Ent) : Bool := decide (alkE n slot es fs = 0) && decide ((mv n slot es).2 = (mv n slot fs).2)
theorem Alike_all (n slot : Int) (a b : Option Addr) (c d : Nat) (es fs : List Ent) (W : World) (h : ScrAt W a es.length es) (h2 : ScrAt W b fs.length fs) (hn : es.length ≤ maxLen) (hm : fs.length ≤ maxLen) :
    Calls Tryz.prog 26 #[.slice a es.length c, .slice b fs.length d, .int .i64 n, .int .i64 slot] W fun e w' => e = .returned (.tuple #[.bool (alkB n slot es fs), .int .i64 (alkE n slot es fs)]) ∧ Below W.heap.size W w' := by
  by_cases h0 : wrg2 slot es fs = 0
  · by_cases ha : n < 1 ∨ 8 < n ∨ n ≤ slot
    · have hE : alkE n slot es fs = 2 := by rw [alkE, if_pos h0, if_pos ha]
      have hB : alkB n slot es fs = false := by rw [alkB, hE]; rfl
      rw [hB, hE]
      exact Alike_arg n slot a b _ _ c d es fs W h h2 hn hm h0 ha
    · have hE : alkE n slot es fs = 0 := by rw [alkE, if_pos h0, if_neg ha]
      have hB : alkB n slot es fs = decide ((mv n slot es).2 = (mv n slot fs).2) := by rw [alkB, hE]; rfl
      rw [hB, hE]
      exact Alike_yes n slot (by omega) (by omega) (by omega) a b _ _ c d es fs W h h2 hn hm h0
  · have hE : alkE n slot es fs = wrg2 slot es fs := by rw [alkE, if_neg h0]
    have hB : alkB n slot es fs = false := by rw [alkB, hE, decide_eq_false h0]; rfl
    rw [hB, hE]
    exact Alike_no n slot a b _ _ c d es fs W h h2 hn hm _ rfl h0
theorem ScrAt.datB {W : World} {a : Option Addr} {n : Nat} {es : List Ent} (h : ScrAt W a n es) : DatOf (Below W.heap.size W) W a es := by
  intro i e b o v ha he hv W' hW'
  obtain ⟨b', o', ha', v', c0, c1, c2, c3, hs⟩ := h.2 i e he
  rw [ha] at ha'
  cases ha'
  rw [hv] at c3
  cases c3
  exact StrAt.below hs hW'
set_option maxHeartbeats 1000000 in
theorem AgreeR_any (slot : Int) (a b : Option Addr) (n m c d : Nat) (es fs : List Ent) (W : World) (h : ScrAt W a n es) (h2 : ScrAt W b m fs) (hn : n ≤ 4000) (hm : m ≤ 4000) :
    Calls Tryz.prog 56 #[.slice a n c, .slice b m d, .int .i64 slot] W fun e w' => e = .returned (.bool (decide (framesL slot es = framesL slot fs))) ∧ Below W.heap.size W w' := by
  have HA := Lib.hid h
  have HB2 := Lib.hid h2
  have hx4 : (framesL slot es).length ≤ 4000 := by have := framesL_len slot es; have := h.1; omega
  clear h h2
  generalize hxs : framesL slot es = xs at *
  generalize hys : framesL slot fs = ys at *
  have HXS := Lib.hid hxs
  have HYS := Lib.hid hys
  clear hxs hys
  go_enter Tryz.func56, Tryz.ntmps56
  go_wp2_with fail
  refine (FramesR_any slot a n c es W HA.out hn _ HA.out.datB).mono ?_; rintro e W1 ⟨v1, l1, rfl, hl1, hr1, hb1⟩
  have HB := Lib.hid hb1
  replace HB2 := Lib.hid (HB2.out.below hb1)
  have hz1 := hb1.size
  clear hb1
  obtain ⟨a1, c1, rfl, -, -, hw1⟩ := bytes_rows hr1.1 (fun x hx => hr1.2 x hx W1 HB.out)
  rw [HXS.out] at hl1
  rw [hl1] at hw1
  have hk1 : l1.length = xs.length := by rw [← hl1, List.length_map]
  rw [hk1] at hw1 ⊢
  have HR1 := Lib.hid hw1
  clear hl1 hr1 hw1 hk1
  go_wp2_with fail
  refine (FramesR_any slot b m d fs W1 HB2.out hm _ HB2.out.datB).mono ?_; rintro e W2 ⟨v2, l2, rfl, hl2, hr2, hb2⟩
  obtain ⟨a2, c2, rfl, -, -, hw2⟩ := bytes_rows hr2.1 (fun x hx => hr2.2 x hx W2 hb2)
  rw [HYS.out] at hl2
  rw [hl2] at hw2
  replace HR1 := Lib.hid (HR1.out.mod (S := fun _ => False) (Mod.of_same hb2) (by simp))
  replace HB := Lib.hid (below_step_ HB.out hb2)
  have hk2 : l2.length = ys.length := by rw [← hl2, List.length_map]
  rw [hk2] at hw2 ⊢
  have HR2 := Lib.hid hw2
  clear hl2 hr2 hw2 hk2 hb2 HA HB2 l1 l2
  clear HXS HYS
  generalize hkx : xs.length = kx at *
  generalize hky : ys.length = ky at *
  have HX := Lib.hid hkx
  have HY := Lib.hid hky
  clear hkx hky
  by_cases hxy : kx = ky
  · subst hxy
    have hkI : (kx : Int) ≤ 4000 := by omega
    go_wp2_with fail
    go_loopw [9] (fun i wr => ∃ k : Nat, k ≤ kx ∧ i = .int .i64 k ∧ Hid (xs.take k = ys.take k) ∧ Hid (Below W2.heap.size W2 wr)) (fun i _ => kx - (intOf i).toNat)
    case atStart => exact ⟨0, Nat.zero_le _, rfl, rfl, Below.refl _ _⟩
    case round =>
      obtain ⟨k, hk, rfl, HT, HC⟩ := hrel
      by_cases hlt : k < kx
      · have hltI : (k : Int) < kx := by omega
        have hx1 : k < xs.length := by rw [HX.out]; exact hlt
        have hy1 : k < ys.length := by rw [HY.out]; exact hlt
        have hm : Mod (fun _ => False) W2 wr := Mod.of_same HC.out
        obtain ⟨b1, o1, v1, e1, q1, s1⟩ := HR1.out.2 k _ (List.getElem?_eq_getElem hx1)
        obtain ⟨b2, o2, v2, e2, q2, s2⟩ := HR2.out.2 k _ (List.getElem?_eq_getElem hy1)
        subst e1 e2
        replace q1 := hm.cell (by simp) q1
        replace q2 := hm.cell (by simp) q2
        replace s1 := s1.mod hm (by simp)
        replace s2 := s2.mod hm (by simp)
        have HXY : Hid (∀ h : xs[k] = ys[k], xs.take (k + 1) = ys.take (k + 1)) := fun h => take_eq_stepS_ HT.out hx1 hy1 h
        have HNE : Hid (∀ h : ¬ xs[k] = ys[k], ¬ xs = ys) := fun h e => h (by subst e; rfl)
        have s3 := fun j => (s1.drewN j).convert
        have s4 := fun j => (s2.drewN j).convert
        clear hm s1 s2
        generalize xs[k] = x at *
        generalize ys[k] = y at *
        have hd := streq_ x y
        by_cases hxy : x = y
        · rw [decide_eq_true hxy] at hd
          replace HXY := Lib.hid (HXY.out hxy)
          have hd' : (x.toList != y.toList) = false := by simp [bne, hd]
          clear hxy HNE
          go_wp2_with fail
          go_quiet (fail)
          go_wp2_with fail
          exact ⟨⟨k + 1, by omega, by simp, HXY.out, below_drewB_ HC.out nq⟩, by simp [intOf]; omega⟩
        · rw [decide_eq_false hxy] at hd
          have hd' : (x.toList != y.toList) = true := by simp [bne, hd]
          replace HNE := Lib.hid (HNE.out hxy)
          clear hxy HXY
          go_wp2_with fail
          go_quiet (fail)
          go_wp2_with fail
          go_ret
          exact ⟨by rw [decide_eq_false HNE.out]; rfl, below_step_ HB.out (below_drewB_ HC.out nq)⟩
      · obtain rfl : k = kx := by omega
        have HE : Hid (xs = ys) := by
          have := HT.out
          rw [List.take_of_length_le (by rw [HX.out]; exact Nat.le_refl _), List.take_of_length_le (by rw [HY.out]; exact Nat.le_refl _)] at this
          exact this
        go_wp2_with fail
        go_ret
        exact ⟨by rw [decide_eq_true HE.out]; rfl, below_step_ HB.out HC.out⟩
  · have hne : ¬ (kx : Int) = ky := by omega
    have HNE : Hid (¬ xs = ys) := fun e => hxy (by rw [← HX.out, ← HY.out, e])
    go_wp2_with fail
    go_ret
    exact ⟨by rw [decide_eq_false HNE.out]; rfl, HB.out⟩
end View
end Go.Proofs.YtdfmgneicdpjmaaGreat

/- The reference's Alike. -/
namespace Go.Proofs.YtdfmgneicdpjmaaGreat
open Go.RowKit Go.Shelf
attribute [local go_sem] Oper.semAt_some
set_option linter.unusedVariables false
set_option linter.unusedSimpArgs false
set_option maxRecDepth 100000
namespace View
open Resp

theorem take_eq_stepM_ {xs ys : List (Bool × ByteArray)} {k : Nat} (h : xs.take k = ys.take k) (hx : k < xs.length) (hy : k < ys.length) (he : xs[k] = ys[k]) : xs.take (k + 1) = ys.take (k + 1) := take_eq_stepG_ h hx hy he
set_option maxHeartbeats 1000000 in
theorem AlikeR_any (nn slot : Int) (hn1 : 1 ≤ nn) (hn8 : nn ≤ 8) (a b : Option Addr) (n m c d : Nat) (es fs : List Ent) (W : World) (h : ScrAt W a n es) (h2 : ScrAt W b m fs) (hn : n ≤ 4000) (hm : m ≤ 4000) (hc : n ≤ c) (hd : m ≤ d) :
    Calls Tryz.prog 57 #[.slice a n c, .slice b m d, .int .i64 nn, .int .i64 slot] W fun e w' => e = .returned (.bool (decide ((mv nn slot es).2 = (mv nn slot fs).2))) ∧ Below W.heap.size W w' := by
  have HA := Lib.hid h
  have HB2 := Lib.hid h2
  have hx4 : ((mv nn slot es).2).length ≤ 4000 := by have := (mv_len nn slot es).2; have := h.1; omega
  clear h h2
  generalize hxs : (mv nn slot es).2 = xs at *
  generalize hys : (mv nn slot fs).2 = ys at *
  have HXS := Lib.hid hxs
  have HYS := Lib.hid hys
  clear hxs hys
  go_enter Tryz.func57, Tryz.ntmps57
  go_wp2_with fail
  refine (MovesR_any nn slot hn1 hn8 a n c es W HA.out hn hc _ HA.out.datB).mono ?_; rintro e W1 ⟨v1, l1, rfl, hl1, hr1, hb1⟩
  have HB := Lib.hid hb1
  replace HB2 := Lib.hid (HB2.out.below hb1)
  have hz1 := hb1.size
  clear hb1
  obtain ⟨a1, c1, rfl, -, -, hw1⟩ := movO_rows hr1.1 (fun x hx => hr1.2 x hx W1 HB.out)
  rw [HXS.out] at hl1
  rw [hl1] at hw1
  have hk1 : l1.length = xs.length := by rw [← hl1, List.length_map]
  rw [hk1] at hw1 ⊢
  have HR1 := Lib.hid hw1
  clear hl1 hr1 hw1 hk1
  go_wp2_with fail
  refine (MovesR_any nn slot hn1 hn8 b m d fs W1 HB2.out hm hd _ HB2.out.datB).mono ?_; rintro e W2 ⟨v2, l2, rfl, hl2, hr2, hb2⟩
  obtain ⟨a2, c2, rfl, -, -, hw2⟩ := movO_rows hr2.1 (fun x hx => hr2.2 x hx W2 hb2)
  rw [HYS.out] at hl2
  rw [hl2] at hw2
  replace HR1 := Lib.hid (HR1.out.mod (S := fun _ => False) (Mod.of_same hb2) (by simp))
  replace HB := Lib.hid (below_step_ HB.out hb2)
  have hk2 : l2.length = ys.length := by rw [← hl2, List.length_map]
  rw [hk2] at hw2 ⊢
  have HR2 := Lib.hid hw2
  clear hl2 hr2 hw2 hk2 hb2 HA HB2 l1 l2
  clear HXS HYS
  generalize hkx : xs.length = kx at *
  generalize hky : ys.length = ky at *
  have HX := Lib.hid hkx
  have HY := Lib.hid hky
  clear hkx hky
  by_cases hxy : kx = ky
  · subst hxy
    have hkI : (kx : Int) ≤ 4000 := by omega
    go_wp2_with fail
    go_loopw [11] (fun i wr => ∃ k : Nat, k ≤ kx ∧ i = .int .i64 k ∧ Hid (xs.take k = ys.take k) ∧ Hid (Below W2.heap.size W2 wr)) (fun i _ => kx - (intOf i).toNat)
    case atStart => exact ⟨0, Nat.zero_le _, rfl, rfl, Below.refl _ _⟩
    case round =>
      obtain ⟨k, hk, rfl, HT, HC⟩ := hrel
      by_cases hlt : k < kx
      · have hltI : (k : Int) < kx := by omega
        have hx1 : k < xs.length := by rw [HX.out]; exact hlt
        have hy1 : k < ys.length := by rw [HY.out]; exact hlt
        have hm : Mod (fun _ => False) W2 wr := Mod.of_same HC.out
        obtain ⟨b1, o1, v1, e1, p1, q1, s1⟩ := HR1.out.2 k _ (List.getElem?_eq_getElem hx1)
        obtain ⟨b2, o2, v2, e2, p2, q2, s2⟩ := HR2.out.2 k _ (List.getElem?_eq_getElem hy1)
        subst e1 e2
        replace p1 := hm.cell (by simp) p1
        replace p2 := hm.cell (by simp) p2
        replace q1 := hm.cell (by simp) q1
        replace q2 := hm.cell (by simp) q2
        replace s1 := s1.mod hm (by simp)
        replace s2 := s2.mod hm (by simp)
        have HXY : Hid (∀ h : xs[k] = ys[k], xs.take (k + 1) = ys.take (k + 1)) := fun h => take_eq_stepM_ HT.out hx1 hy1 h
        have HNE : Hid (∀ h : ¬ xs[k] = ys[k], ¬ xs = ys) := fun h e => h (by subst e; rfl)
        have s3 := fun j => (s1.drewN j).convert
        have s4 := fun j => (s2.drewN j).convert
        clear hm s1 s2
        generalize xs[k] = x at *
        generalize ys[k] = y at *
        obtain ⟨xt, xf⟩ := x
        obtain ⟨yt, yf⟩ := y
        simp only at p1 p2 s3 s4
        have hd := streq_ xf yf
        by_cases hxt : xt = yt
        · subst hxt
          by_cases hxy : xf = yf
          · rw [decide_eq_true hxy] at hd
            replace HXY := Lib.hid (HXY.out (by rw [hxy]))
            have hd' : (xf.toList != yf.toList) = false := by simp [bne, hd]
            clear hxy HNE
            cases xt <;> (go_wp2_with fail; go_quiet (fail); go_wp2_with fail; exact ⟨⟨k + 1, by omega, by simp, HXY.out, below_drewB_ HC.out nq⟩, by simp [intOf]; omega⟩)
          · rw [decide_eq_false hxy] at hd
            have hd' : (xf.toList != yf.toList) = true := by simp [bne, hd]
            replace HNE := Lib.hid (HNE.out (by simpa using hxy))
            clear hxy HXY
            cases xt <;> (go_wp2_with fail; go_quiet (fail); go_wp2_with fail; go_ret; exact ⟨by rw [decide_eq_false HNE.out]; rfl, below_step_ HB.out (below_drewB_ HC.out nq)⟩)
        · replace HNE := Lib.hid (HNE.out (by intro e; exact hxt (congrArg Prod.fst e)))
          clear HXY hd
          cases xt <;> cases yt
          · exact absurd rfl hxt
          · clear hxt; go_wp2_with fail; go_quiet (fail); go_wp2_with fail; go_ret; exact ⟨by rw [decide_eq_false HNE.out]; rfl, below_step_ HB.out (below_drewB_ HC.out nq)⟩
          · clear hxt; go_wp2_with fail; go_quiet (fail); go_wp2_with fail; go_ret; exact ⟨by rw [decide_eq_false HNE.out]; rfl, below_step_ HB.out (below_drewB_ HC.out nq)⟩
          · exact absurd rfl hxt
      · obtain rfl : k = kx := by omega
        have HE : Hid (xs = ys) := by
          have := HT.out
          rw [List.take_of_length_le (by rw [HX.out]; exact Nat.le_refl _), List.take_of_length_le (by rw [HY.out]; exact Nat.le_refl _)] at this
          exact this
        go_wp2_with fail
        go_ret
        exact ⟨by rw [decide_eq_true HE.out]; rfl, below_step_ HB.out HC.out⟩
  · have hne : ¬ (kx : Int) = ky := by omega
    have HNE : Hid (¬ xs = ys) := fun e => hxy (by rw [← HX.out, ← HY.out, e])
    go_wp2_with fail
    go_ret
    exact ⟨by rw [decide_eq_false HNE.out]; rfl, HB.out⟩
end View
end Go.Proofs.YtdfmgneicdpjmaaGreat

/- What the reference's Mix lays, and that it is what Mix lays. -/
namespace Go.Proofs.YtdfmgneicdpjmaaGreat
open Go.RowKit Go.Shelf
set_option linter.unusedVariables false
set_option linter.unusedSimpArgs false
set_option maxRecDepth 100000
namespace View
open Resp

def insP (ps : List (Ent × Int)) (j : Nat) : List Ent := (ps.filter fun p => decide (p.2 = (j : Int))).map Prod.fst
def layP (es : List Ent) (ps : List (Ent × Int)) (k : Nat) : List Ent := (List.range k).flatMap fun j => insP ps j ++ es[j]?.toList
theorem layP_succ (es : List Ent) (ps : List (Ent × Int)) (k : Nat) : layP es ps (k + 1) = layP es ps k ++ (insP ps k ++ es[k]?.toList) := by
  simp [layP, List.range_succ]
theorem insP_take {ps : List (Ent × Int)} {i : Nat} (h : i < ps.length) (k : Nat) : insP (ps.take (i + 1)) k = insP (ps.take i) k ++ if ps[i].2 = (k : Int) then [ps[i].1] else [] := by
  unfold insP
  rw [List.take_succ_eq_append_getElem h, List.filter_append, List.map_append]
  by_cases hz : ps[i].2 = (k : Int) <;> simp [hz]
theorem insP_append (a b : List (Ent × Int)) (j : Nat) : insP (a ++ b) j = insP a j ++ insP b j := by simp [insP]
theorem insP_none {ps : List (Ent × Int)} {j : Nat} (h : ∀ p ∈ ps, ¬ p.2 = (j : Int)) : insP ps j = [] := by
  unfold insP
  rw [List.filter_eq_nil_iff.2 (by simpa using h)]
  rfl
theorem insP_whole {ps : List (Ent × Int)} {j : Nat} (h : ∀ p ∈ ps, p.2 = (j : Int)) : insP ps j = ps.map Prod.fst := by
  unfold insP
  rw [List.filter_eq_self.2 (by simpa using h)]
theorem take_le_ {k : Nat} : ∀ (ps : List (Ent × Int)), ∀ p ∈ ps.takeWhile (fun p => decide (p.2 ≤ (k : Int))), p ∈ ps ∧ p.2 ≤ (k : Int)
  | [], p, hp => by simp at hp
  | q :: t, p, hp => by
    by_cases hq : q.2 ≤ (k : Int)
    · rw [List.takeWhile_cons_of_pos (by simpa using hq)] at hp
      rcases List.mem_cons.1 hp with rfl | hp
      · exact ⟨List.mem_cons_self, hq⟩
      · obtain ⟨h1, h2⟩ := take_le_ t p hp
        exact ⟨List.mem_cons_of_mem _ h1, h2⟩
    · rw [List.takeWhile_cons_of_neg (by simpa using hq)] at hp
      simp at hp
theorem drop_gt_ {k : Nat} : ∀ (ps : List (Ent × Int)), ps.Pairwise (fun p q => p.2 ≤ q.2) → (∀ p ∈ ps.dropWhile (fun p => decide (p.2 ≤ (k : Int))), p ∈ ps ∧ (k : Int) < p.2) ∧ (ps.dropWhile (fun p => decide (p.2 ≤ (k : Int)))).Pairwise (fun p q => p.2 ≤ q.2)
  | [], _ => by simp
  | q :: t, h => by
    obtain ⟨h1, h2⟩ := List.pairwise_cons.1 h
    by_cases hq : q.2 ≤ (k : Int)
    · rw [List.dropWhile_cons_of_pos (by simpa using hq)]
      obtain ⟨h3, h4⟩ := drop_gt_ t h2
      exact ⟨fun p hp => ⟨List.mem_cons_of_mem _ (h3 p hp).1, (h3 p hp).2⟩, h4⟩
    · rw [List.dropWhile_cons_of_neg (by simpa using hq)]
      refine ⟨fun p hp => ⟨hp, ?_⟩, h⟩
      rcases List.mem_cons.1 hp with rfl | hp
      · omega
      · have := h1 p hp; omega
theorem mixP_lay : ∀ (es : List Ent) (k : Nat) (ps : List (Ent × Int)), ps.Pairwise (fun p q => p.2 ≤ q.2) → (∀ p ∈ ps, (k : Int) ≤ p.2 ∧ p.2 ≤ (k : Int) + es.length) →
    mixP k es ps = (List.range (es.length + 1)).flatMap fun j => insP ps (k + j) ++ es[j]?.toList
  | [], k, ps, hs, hb => by
    have h1 : insP ps k = ps.map Prod.fst := insP_whole (fun p hp => by have := hb p hp; simp at this; omega)
    simp [mixP, h1]
  | e :: t, k, ps, hs, hb => by
    have hsp : ps = ps.takeWhile (fun p => decide (p.2 ≤ (k : Int))) ++ ps.dropWhile (fun p => decide (p.2 ≤ (k : Int))) := List.takeWhile_append_dropWhile.symm
    obtain ⟨hd, hds⟩ := drop_gt_ (k := k) ps hs
    have ht := take_le_ (k := k) ps
    have ih := mixP_lay t (k + 1) (ps.dropWhile fun p => decide (p.2 ≤ (k : Int))) hds (fun p hp => by
      have h1 := hd p hp
      have h2 := hb p h1.1
      simp at h2
      omega)
    have hk : insP ps k = (ps.takeWhile fun p => decide (p.2 ≤ (k : Int))).map Prod.fst := by
      rw [hsp, insP_append, insP_none (ps := List.dropWhile _ _) (fun p hp => by have := hd p hp; omega), List.append_nil, ← hsp]
      exact insP_whole (fun p hp => by have := ht p hp; have := hb p this.1; omega)
    have hj : ∀ j : Nat, insP ps (k + (j + 1)) = insP (ps.dropWhile fun p => decide (p.2 ≤ (k : Int))) (k + 1 + j) := fun j => by
      have h1 : insP ps (k + (j + 1)) = insP (ps.takeWhile (fun p => decide (p.2 ≤ (k : Int))) ++ ps.dropWhile (fun p => decide (p.2 ≤ (k : Int)))) (k + (j + 1)) := by rw [← hsp]
      rw [h1, insP_append, insP_none (ps := List.takeWhile _ _) (fun p hp => by have := ht p hp; omega), List.nil_append]
      congr 1
      omega
    rw [mixP, ih, ← hk, List.length_cons, List.range_succ_eq_map (n := t.length + 1), List.flatMap_cons, List.flatMap_map]
    simp [hj]
theorem sorted_pairs {zs : List Int} (h : sortedB zs = true) : ∀ i j, i < j → j < zs.length → zs[i]?.getD (0 : Int) ≤ zs[j]?.getD (0 : Int) := by
  unfold sortedB at h
  rw [decide_eq_true_eq] at h
  intro i j hij
  induction j with
  | zero => omega
  | succ j ih =>
    intro hj
    have h1 := h j (by omega)
    by_cases he : i = j
    · subst he; exact h1
    · exact Int.le_trans (ih (by omega) (by omega)) h1
/-- What the reference asks of the places. -/
def refOk (n : Nat) (zs : List Int) (k : Nat) : Prop := ∀ i, i < k → (0 : Int) ≤ zs[i]?.getD (0 : Int) ∧ zs[i]?.getD (0 : Int) ≤ (n : Int) ∧ (0 < i → zs[i - 1]?.getD (0 : Int) ≤ zs[i]?.getD (0 : Int))
theorem atOk_ref {n m : Nat} {zs : List Int} (hl : zs.length = m) : atOk n m zs = true ↔ refOk n zs zs.length := by
  unfold atOk
  rw [Bool.and_eq_true, Bool.and_eq_true, Bool.or_eq_true, Bool.and_eq_true]
  simp only [beq_iff_eq, decide_eq_true_eq]
  constructor
  · rintro ⟨-, hs, h⟩ i hi
    have hs2 := sorted_pairs hs
    rcases h with h | ⟨h0, h1⟩
    · omega
    · refine ⟨?_, ?_, fun h => hs2 _ _ (by omega) hi⟩
      · by_cases h9 : i = 0
        · subst h9; exact h0
        · exact Int.le_trans h0 (hs2 0 i (by omega) hi)
      · by_cases h9 : i = zs.length - 1
        · subst h9; exact h1
        · exact Int.le_trans (hs2 i (zs.length - 1) (by omega) (by omega)) h1
  · intro h
    refine ⟨hl, ?_, ?_⟩
    · unfold sortedB
      rw [decide_eq_true_eq]
      intro i hi
      have := (h (i + 1) (by omega)).2.2 (by omega)
      simpa using this
    · by_cases h0 : zs.length = 0
      · exact .inl h0
      · exact .inr ⟨(h 0 (by omega)).1, (h (zs.length - 1) (by omega)).2.1⟩
theorem mixP_ref {es fs : List Ent} {zs : List Int} (h : atOk es.length fs.length zs = true) : layP es (fs.zip zs) (es.length + 1) = mixP 0 es (fs.zip zs) := by
  have hl : zs.length = fs.length := by unfold atOk at h; simp at h; exact h.1
  have hs : sortedB zs = true := by unfold atOk at h; simp at h; exact h.2.1
  have hr := (atOk_ref hl).1 h
  have hs2 := sorted_pairs hs
  have hat : ∀ i (hi : i < (fs.zip zs).length), ((fs.zip zs)[i]).2 = zs[i]?.getD (0 : Int) := by
    intro i hi
    have h1 : i < zs.length := by simp at hi; omega
    rw [List.getElem_zip]
    simp [List.getElem?_eq_getElem h1]
  have := mixP_lay es 0 (fs.zip zs) (List.pairwise_iff_getElem.2 (fun i j hi hj hij => by
      rw [hat i hi, hat j hj]
      exact hs2 i j hij (by simp at hj; omega))) (fun p hp => by
      obtain ⟨i, hi, rfl⟩ := List.mem_iff_getElem.1 hp
      rw [hat i hi]
      have := hr i (by simp at hi; omega)
      simp
      exact ⟨this.1, this.2.1⟩)
  rw [this]
  simp [layP]
end View
end Go.Proofs.YtdfmgneicdpjmaaGreat

/- The reference's Mix. -/
namespace Go.Proofs.YtdfmgneicdpjmaaGreat
open Go.RowKit Go.Shelf Go.BigFrame
attribute [local go_sem] Oper.semAt_some
set_option linter.unusedVariables false
set_option linter.unusedSimpArgs false
set_option maxRecDepth 100000
namespace View
open Resp

def mixRE (n m : Nat) (zs : List Int) : Int := if atOk n m zs = true then (if n + m ≤ 4000 then 0 else 5) else 2
def MixRP (D : World → Prop) (W : World) (n m : Nat) (es fs : List Ent) (zs : List Int) (e : Ending) (w' : World) : Prop := ∃ v l, e = .returned (.tuple #[v, .int .i64 (mixRE n m zs)]) ∧ l.map Prod.fst = (if mixRE n m zs = 0 then mixP 0 es (fs.zip zs) else []) ∧ LRow entSh D w' W.heap.size v l ∧ Below W.heap.size W w'
theorem MixRP.none {D : World → Prop} {W w' : World} {n m : Nat} {es fs : List Ent} {zs : List Int} {E : Int} (hE : mixRE n m zs = E) (h0 : ¬ E = 0) (hb : Below W.heap.size W w') : MixRP D W n m es fs zs (.returned (.tuple #[.slice none 0 0, .int .i64 E])) w' :=
  ⟨_, [], by rw [hE], by rw [hE, if_neg h0]; rfl, LRow.nil _ _ _ _, hb⟩
theorem refOk_step {n : Nat} {zs : List Int} {k : Nat} (h : refOk n zs k) (h1 : (0 : Int) ≤ zs[k]?.getD (0 : Int)) (h2 : zs[k]?.getD (0 : Int) ≤ (n : Int)) (h3 : 0 < k → zs[k - 1]?.getD (0 : Int) ≤ zs[k]?.getD (0 : Int)) : refOk n zs (k + 1) := by
  intro i hi
  by_cases he : i = k
  · subst he; exact ⟨h1, h2, h3⟩
  · exact h i (by omega)
theorem mixRE_two {n m : Nat} {zs : List Int} (hl : zs.length = m) (h : ¬ refOk n zs zs.length) : mixRE n m zs = 2 := by
  rw [mixRE, if_neg]
  intro h2
  exact h ((atOk_ref hl).1 h2)
theorem mixRE_len {n m : Nat} {zs : List Int} (hl : ¬ zs.length = m) : mixRE n m zs = 2 := by
  rw [mixRE, if_neg]
  intro h2
  unfold atOk at h2
  simp at h2
  exact hl h2.1
set_option maxHeartbeats 4000000 in
theorem MixR_any (a b za : Option Addr) (n m zn c d zc : Nat) (es fs : List Ent) (zs : List Int) (W : World) (h : ScrAt W a n es) (h2 : ScrAt W b m fs) (hn : n ≤ 4000) (hm : m ≤ 4000) (hz : Reads .i64 W (.slice za zn zc) zs) (hzl : zs.length ≤ 1000000) (D : World → Prop) (hD : DatOf D W a es) (hD2 : DatOf D W b fs) :
    Calls Tryz.prog 55 #[.slice a n c, .slice b m d, .slice za zn zc] W (MixRP D W n m es fs zs) := by
  obtain ⟨i1, ji, jz0, jz1, jz2⟩ := info_parts infoRefEnt
  have HA := Lib.hid h
  have HB := Lib.hid h2
  have HZ := Lib.hid hz
  have HDA := Lib.hid hD
  have HDB := Lib.hid hD2
  have hzf : zn = zs.length := by
    obtain ⟨a', c', e⟩ := Reads.form_ hz
    injection e with _ e2 _
  subst hzf
  have hnI : (n : Int) ≤ 4000 := by omega
  have hmI : (m : Int) ≤ 4000 := by omega
  have hzI : (zs.length : Int) ≤ 1000000 := by omega
  have HLA := Lib.hid h.1
  have HLB := Lib.hid h2.1
  clear h h2 hz hD hD2
  go_enter Tryz.func55, Tryz.ntmps55
  by_cases hlm : zs.length = m
  · have HLM := Lib.hid hlm
    have hlmI : (zs.length : Int) = m := by omega
    clear hlm
    generalize hq : zs.length = q at *
    have HQ := Lib.hid hq
    clear hq
    obtain rfl : q = m := by omega
    go_wp2_with fail
    go_loopw [8] (fun i wr => ∃ k : Nat, k ≤ q ∧ i = .int .i64 k ∧ Hid (refOk n zs k) ∧ Hid (Below W.heap.size W wr)) (fun i _ => q - (intOf i).toNat)
    case atStart => exact ⟨0, Nat.zero_le _, rfl, fun i hi => absurd hi (Nat.not_lt_zero _), Below.refl _ _⟩
    case round =>
      obtain ⟨k, hk, rfl, HK, HW⟩ := hrel
      by_cases hlt : k < q
      · have hltI : (k : Int) < q := by omega
        obtain ⟨zb, zo, rfl, -, hc⟩ := reads_cells_ HZ.out (by have := HQ.out; omega)
        have q1 := (Mod.of_same HW.out : Mod (fun _ => False) W wr).cell (by simp) (hc k (by have := HQ.out; omega))
        have HST := Lib.hid (fun h1 h2 h3 => refOk_step (k := k) HK.out h1 h2 h3)
        have HBAD : Hid (¬ refOk n zs (k + 1) → mixRE n q zs = 2) := fun h => mixRE_two HQ.out (fun h9 => h (fun i hi => h9 i (by have := HQ.out; omega)))
        have q0 : 0 < k → wr.cell? ⟨zb, zo + (k - 1), none⟩ = some (.int .i64 (zs[k - 1]?.getD 0)) := fun h0 => (Mod.of_same HW.out : Mod (fun _ => False) W wr).cell (by simp) (hc (k - 1) (by have := HQ.out; omega))
        have hb9 : Hid (¬ (0 : Int) ≤ zs[k]?.getD (0 : Int) → mixRE n q zs = 2) := fun h => HBAD.out (fun h9 => h (h9 k (by omega)).1)
        have hb8 : Hid (¬ zs[k]?.getD (0 : Int) ≤ (n : Int) → mixRE n q zs = 2) := fun h => HBAD.out (fun h9 => h (h9 k (by omega)).2.1)
        have hb7 : Hid (0 < k → ¬ zs[k - 1]?.getD (0 : Int) ≤ zs[k]?.getD (0 : Int) → mixRE n q zs = 2) := fun h0 h => HBAD.out (fun h9 => h ((h9 k (by omega)).2.2 h0))
        generalize zs[k]?.getD (0 : Int) = z at *
        generalize zs[k - 1]?.getD (0 : Int) = y at *
        clear HBAD hc
        by_cases hz0 : (0 : Int) ≤ z
        · by_cases hzn : z ≤ (n : Int)
          · have hz0' : ¬ z < 0 := by omega
            have hzn' : ¬ (n : Int) < z := by omega
            by_cases hk0 : 0 < k
            · have hk0I : 0 < (k : Int) := by omega
              have hw1 : IntKind.i64.wrap ((k : Int) - 1) = (k : Int) - 1 := by rw [IntKind.wrap_i64]; omega
              have hto : ((k : Int) - 1).toNat = k - 1 := by omega
              have hge : 0 ≤ (k : Int) - 1 := by omega
              have hlt1 : (k : Int) - 1 < q := by omega
              replace q0 := q0 hk0
              by_cases hyz : y ≤ z
              · have hyz' : ¬ z < y := by omega
                replace HST := Lib.hid (HST.out hz0 hzn (fun _ => hyz))
                clear hb7 hb8 hb9
                go_wp2_with fail
                have hd0 : decide (z < 0) = false := decide_eq_false (by omega)
                have hd1 : decide ((n : Int) < z) = false := decide_eq_false (by omega)
                have hd2 : decide (0 < (k : Int)) = true := decide_eq_true (by omega)
                have hd3 : decide (z < y) = false := decide_eq_false (by omega)
                go_quiet (fail)
                go_wp2_with fail
                exact ⟨⟨k + 1, by omega, by simp, HST.out, below_drewB_ HW.out nq⟩, by simp [intOf]; omega⟩
              · have hyz' : z < y := by omega
                have HE := Lib.hid (hb7.out hk0 hyz)
                clear hb7 hb8 hb9 HST
                go_wp2_with fail
                have hd0 : decide (z < 0) = false := decide_eq_false (by omega)
                have hd1 : decide ((n : Int) < z) = false := decide_eq_false (by omega)
                have hd2 : decide (0 < (k : Int)) = true := decide_eq_true (by omega)
                have hd3 : decide (z < y) = true := decide_eq_true (by omega)
                go_quiet (fail)
                go_wp2_with fail
                go_ret2
                exact MixRP.none HE.out (by decide) (below_drewB_ HW.out nq)
            · have hk0I : ¬ 0 < (k : Int) := by omega
              replace HST := Lib.hid (HST.out hz0 hzn (fun h => absurd h hk0))
              clear hb7 hb8 hb9 q0
              go_wp2_with fail
              have hd0 : decide (z < 0) = false := decide_eq_false (by omega)
              have hd1 : decide ((n : Int) < z) = false := decide_eq_false (by omega)
              have hd2 : decide (0 < (k : Int)) = false := decide_eq_false (by omega)
              go_quiet (fail)
              go_wp2_with fail
              exact ⟨⟨k + 1, by omega, by simp, HST.out, below_drewB_ HW.out nq⟩, by simp [intOf]; omega⟩
          · have hz0' : ¬ z < 0 := by omega
            have hzn' : (n : Int) < z := by omega
            have HE := Lib.hid (hb8.out hzn)
            clear hb7 hb8 hb9 HST q0
            go_wp2_with fail
            have hd0 : decide (z < 0) = false := decide_eq_false (by omega)
            have hd1 : decide ((n : Int) < z) = true := decide_eq_true (by omega)
            go_quiet (fail)
            go_wp2_with fail
            go_ret2
            exact MixRP.none HE.out (by decide) (below_drewB_ HW.out nq)
        · have hz0' : z < 0 := by omega
          have HE := Lib.hid (hb9.out hz0)
          clear hb7 hb8 hb9 HST q0
          go_wp2_with fail
          have hd0 : decide (z < 0) = true := decide_eq_true (by omega)
          go_quiet (fail)
          go_wp2_with fail
          go_ret2
          exact MixRP.none HE.out (by decide) (below_drewB_ HW.out nq)
      · obtain rfl : k = q := by omega
        have hok : atOk n k zs = true := (atOk_ref HQ.out).2 (by rw [HQ.out]; exact HK.out)
        by_cases hs : n + k ≤ 4000
        · have hsI : (n : Int) + k ≤ 4000 := by omega
          have HE : Hid (mixRE n k zs = 0) := by rw [Hid, mixRE, if_pos hok, if_pos hs]
          have HLY : Hid (layP es (fs.zip zs) (n + 1) = mixP 0 es (fs.zip zs)) := by
            have h9 := mixP_ref (es := es) (fs := fs) (zs := zs) (by rw [HLA.out, HLB.out]; exact hok)
            rw [HLA.out] at h9
            exact h9
          clear hok
          go_wp2_with fail
          generalize hX : W.heap.size = X at *
          have HX := Lib.hid hX
          clear hX
          clear HK
          generalize hps : fs.zip zs = ps at *
          have HPS := Lib.hid hps
          clear hps
          go_loopw [9, 10, 11] (fun d i _ wr2 => ∃ (j : Nat) (l : List (Ent × Value)) (da : Option Addr) (dc : Nat), j ≤ n + 1 ∧ l.length ≤ 5000 * j ∧ i = .int .i64 j ∧ d = .slice da l.length dc ∧ Hid (l.map Prod.fst = layP es ps j) ∧ Hid (LRow entSh D wr2 X (.slice da l.length dc) l) ∧ Hid (Below X W wr2)) (fun _ i _ _ => n + 1 - (intOf i).toNat)
          case atStart => exact ⟨0, [], none, 0, Nat.zero_le _, Nat.zero_le _, rfl, rfl, by simp [Hid, layP], LRow.nil _ _ _ _, HW.out⟩
          case round =>
            obtain ⟨j, l, da, dc, hj, hlj, rfl, rfl, HF, HR, HB2⟩ := hrel
            by_cases hlt : j ≤ n
            · have hltI : (j : Int) ≤ n := by omega
              go_wp2_with fail
              go_loopw [9, 11] (fun d i wr3 => ∃ (p : Nat) (l2 : List (Ent × Value)) (da2 : Option Addr) (dc2 : Nat), p ≤ k ∧ l2.length ≤ 5000 * j + p ∧ i = .int .i64 p ∧ d = .slice da2 l2.length dc2 ∧ Hid (l2.map Prod.fst = layP es ps j ++ insP (ps.take p) j) ∧ Hid (LRow entSh D wr3 X (.slice da2 l2.length dc2) l2) ∧ Hid (Below X W wr3)) (fun _ i _ => k - (intOf i).toNat)
              case atStart => exact ⟨0, l, da, dc, Nat.zero_le _, by omega, rfl, rfl, by rw [Hid, HF.out]; simp [insP], HR, HB2⟩
              case round =>
                obtain ⟨p, l2, da2, dc2, hp, hlp, rfl, rfl, HF2, HR2, HB3⟩ := hrel
                by_cases hpk : p < k
                · have hpkI : (p : Int) < k := by omega
                  have hk2 : p < fs.length := by have := HLB.out; omega
                  have hpl : p < ps.length := by rw [← HPS.out, List.length_zip, HQ.out, HLB.out]; omega
                  have hXw : X ≤ wr.heap.size := by have := HB3.out.size; have := HX.out; omega
                  have HBW : Hid (Below W.heap.size W wr) := by rw [HX.out]; exact HB3.out
                  obtain ⟨zb, zo, rfl, -, hc⟩ := reads_cells_ HZ.out (by have := HQ.out; omega)
                  have q1 := (Mod.of_same HBW.out : Mod (fun _ => False) W wr).cell (by simp) (hc p (by have := HQ.out; omega))
                  have HIN : Hid (insP (ps.take (p + 1)) j = insP (ps.take p) j ++ if zs[p]?.getD (0 : Int) = (j : Int) then [fs[p]] else []) := by
                    have hzl : p < zs.length := by have := HQ.out; omega
                    rw [Hid, insP_take hpl]
                    have h1 : ps[p] = (fs[p], zs[p]) := by
                      have h2 : ps[p]? = some (fs[p], zs[p]) := by
                        rw [← HPS.out, List.getElem?_eq_getElem (by rw [HPS.out]; exact hpl), List.getElem_zip]
                      rw [List.getElem?_eq_getElem hpl] at h2
                      injection h2
                    rw [h1, List.getElem?_eq_getElem hzl]
                    rfl
                  generalize zs[p]?.getD (0 : Int) = y at *
                  have hw1 : IntKind.i64.wrap ((p : Int) + 1) = (p : Int) + 1 := by rw [IntKind.wrap_i64]; omega
                  by_cases hyj : y = (j : Int)
                  · subst hyj
                    have HS := Lib.hid (HB.out.below HBW.out)
                    obtain ⟨b1, o1, v1, sa, sc, rfl, hbl, c0, c1, c2, c3, hst, rfl⟩ := HS.out.at_ hk2
                    have HLOW : Hid (∀ W', D W' → StrAt W' (.slice sa fs[p].bytes.size sc) fs[p].bytes) := by
                      obtain ⟨b', o', v', sa', sc', e1, g1, g2, g3, g4, g5, g6, rfl⟩ := HB.out.at_ hk2
                      cases e1
                      have h5 := HBW.out.cell (p := ⟨b1, o1 + p * 4 + 3, none⟩) g1
                      rw [g5, c3] at h5
                      cases h5
                      exact HDB.out p _ b1 o1 _ rfl (List.getElem?_eq_getElem hk2) g5
                    generalize fs[p] = z at *
                    clear hk2 hbl hst HS HBW hc hpl
                    generalize hll : l2.length = ll at *
                    have HLL := Lib.hid hll
                    clear hll
                    go_wp2_with (at_builtin; refine wpList_append_own _ rfl _ _ 95 rfl X 158 i1 (.agg #[.int .u8 0, .int .i64 0, .int .i64 0, .slice none 0 0]) 4 48 Tryz.underlying95 ji jz0 jz1 jz2 rfl (by decide) _ ll _ rfl (by have := HR2.out.1; rw [HLL.out] at this; exact this.alloc _) ⟨wr.heap.size, 0, none⟩ 1 1 [.int .u8 z.kind, .int .i64 z.slot, .int .i64 z.n, .slice sa z.bytes.size sc] rfl rfl (news_k_ (World.alloc_heap_new wr (.cells #[.int .u8 z.kind, .int .i64 z.slot, .int .i64 z.n, .slice sa z.bytes.size sc] 158))) (by simp [Value.oneCell']) (by unfold maxLen; omega) (by omega) (by simp; omega) ?_; intro v' w5 hown' hgrow hat; obtain ⟨a', c', e⟩ := ownsRow_form hown'; subst e; have HOWN := Lib.hid hown'; have HG := Lib.hid hgrow; clear hown' hgrow hat)
                    have hbw : Below X wr w5 := grown_below_ HR2.out.1 HG.out hXw
                    have HR5 : Hid (LRow entSh D w5 X (.slice a' (ll + 1) c') (l2 ++ [(z, .slice sa z.bytes.size sc)])) := HR2.out.push HLOW.out (by rw [HLL.out]; exact HOWN.out)
                    have HB5 := Lib.hid (HB3.out.trans hbw)
                    have hlen : (l2 ++ [(z, Value.slice sa z.bytes.size sc)]).length = ll + 1 := by simp [HLL.out]
                    refine ⟨⟨p + 1, l2 ++ [(z, .slice sa z.bytes.size sc)], a', c', by omega, by omega, by simp, by rw [hlen], ?_, by rw [hlen]; exact HR5.out, HB5.out⟩, by simp [intOf]; omega⟩
                    rw [Hid, HIN.out, if_pos rfl, List.map_append, HF2.out, List.append_assoc]
                    rfl
                  · clear hc
                    have hyj' : (y == (j : Int)) = false := by simpa using hyj
                    have HI2 : Hid (insP (ps.take (p + 1)) j = insP (ps.take p) j) := by rw [Hid, HIN.out, if_neg hyj, List.append_nil]
                    clear HIN hk2 hpl
                    go_wp2_with fail
                    refine ⟨⟨p + 1, l2, da2, dc2, by omega, by omega, by simp, rfl, by rw [HI2.out]; exact HF2.out, HR2.out, HB3.out⟩, by simp [intOf]; omega⟩
                · obtain rfl : p = k := by omega
                  by_cases hjn : j < n
                  · have hjnI : (j : Int) < n := by omega
                    have hk2 : j < es.length := by have := HLA.out; omega
                    have HTK : Hid (ps.take p = ps) := List.take_of_length_le (by rw [← HPS.out, List.length_zip, HQ.out, HLB.out]; omega)
                    have HES : Hid (es[j]?.toList = [es[j]]) := by rw [Hid, List.getElem?_eq_getElem hk2]; rfl
                    have hXw : X ≤ wr.heap.size := by have := HB3.out.size; have := HX.out; omega
                    have HBW : Hid (Below W.heap.size W wr) := by rw [HX.out]; exact HB3.out
                    have HS := Lib.hid (HA.out.below HBW.out)
                    obtain ⟨b1, o1, v1, sa, sc, rfl, hbl, c0, c1, c2, c3, hst, rfl⟩ := HS.out.at_ hk2
                    have HLOW : Hid (∀ W', D W' → StrAt W' (.slice sa es[j].bytes.size sc) es[j].bytes) := by
                      obtain ⟨b', o', v', sa', sc', e1, g1, g2, g3, g4, g5, g6, rfl⟩ := HA.out.at_ hk2
                      cases e1
                      have h5 := HBW.out.cell (p := ⟨b1, o1 + j * 4 + 3, none⟩) g1
                      rw [g5, c3] at h5
                      cases h5
                      exact HDA.out j _ b1 o1 _ rfl (List.getElem?_eq_getElem hk2) g5
                    generalize es[j] = z at *
                    clear hk2 hbl hst HS HBW
                    generalize hll : l2.length = ll at *
                    have HLL := Lib.hid hll
                    clear hll
                    go_wp2_with (at_builtin; refine wpList_append_own _ rfl _ _ 95 rfl X 158 i1 (.agg #[.int .u8 0, .int .i64 0, .int .i64 0, .slice none 0 0]) 4 48 Tryz.underlying95 ji jz0 jz1 jz2 rfl (by decide) _ ll _ rfl (by have := HR2.out.1; rw [HLL.out] at this; exact this.alloc _) ⟨wr.heap.size, 0, none⟩ 1 1 [.int .u8 z.kind, .int .i64 z.slot, .int .i64 z.n, .slice sa z.bytes.size sc] rfl rfl (news_k_ (World.alloc_heap_new wr (.cells #[.int .u8 z.kind, .int .i64 z.slot, .int .i64 z.n, .slice sa z.bytes.size sc] 158))) (by simp [Value.oneCell']) (by unfold maxLen; omega) (by omega) (by simp; omega) ?_; intro v' w5 hown' hgrow hat; obtain ⟨a', c', e⟩ := ownsRow_form hown'; subst e; have HOWN := Lib.hid hown'; have HG := Lib.hid hgrow; clear hown' hgrow hat)
                    have hbw : Below X wr w5 := grown_below_ HR2.out.1 HG.out hXw
                    have HR5 : Hid (LRow entSh D w5 X (.slice a' (ll + 1) c') (l2 ++ [(z, .slice sa z.bytes.size sc)])) := HR2.out.push HLOW.out (by rw [HLL.out]; exact HOWN.out)
                    have HB5 := Lib.hid (HB3.out.trans hbw)
                    have hlen : (l2 ++ [(z, Value.slice sa z.bytes.size sc)]).length = ll + 1 := by simp [HLL.out]
                    refine ⟨⟨j + 1, l2 ++ [(z, .slice sa z.bytes.size sc)], a', c', by omega, by omega, by simp, by rw [hlen], ?_, by rw [hlen]; exact HR5.out, HB5.out⟩, by simp [intOf]; omega⟩
                    rw [Hid, layP_succ, HES.out, List.map_append, HF2.out, HTK.out, List.append_assoc]
                    rfl
                  · have hjnI : ¬ (j : Int) < n := by omega
                    have HTK : Hid (ps.take p = ps) := List.take_of_length_le (by rw [← HPS.out, List.length_zip, HQ.out, HLB.out]; omega)
                    have HES : Hid (es[j]?.toList = []) := by rw [Hid, List.getElem?_eq_none (by rw [HLA.out]; omega)]; rfl
                    go_wp2_with fail
                    refine ⟨⟨j + 1, l2, da2, dc2, by omega, by omega, by simp, rfl, ?_, HR2.out, HB3.out⟩, by simp [intOf]; omega⟩
                    rw [Hid, layP_succ, HES.out, List.append_nil, HF2.out, HTK.out]
            · have hltI : ¬ (j : Int) ≤ n := by omega
              have HJ : Hid (j = n + 1) := by rw [Hid]; omega
              go_wp2_with fail
              go_ret2
              refine ⟨_, l, by rw [HE.out]; rfl, ?_, by rw [HX.out]; exact HR.out, by rw [HX.out]; exact HB2.out⟩
              rw [HE.out, if_pos rfl, HF.out, HPS.out, HJ.out]
              exact HLY.out
        · have hsI : ¬ (n : Int) + k ≤ 4000 := by omega
          have HE : Hid (mixRE n k zs = 5) := by rw [Hid, mixRE, if_pos hok, if_neg hs]
          clear hok
          go_wp2_with fail
          go_ret2
          exact MixRP.none HE.out (by decide) HW.out
  · have hne : ((zs.length : Int) != (m : Int)) = true := by simp; omega
    go_wp2_with fail
    go_ret2
    exact MixRP.none (mixRE_len hlm) (by decide) (Below.refl _ _)
end View
end Go.Proofs.YtdfmgneicdpjmaaGreat

/- fermatalaw42.both. -/
namespace Go.Proofs.YtdfmgneicdpjmaaGreat
open Go.RowKit Go.Shelf
attribute [local go_sem] Oper.semAt_some
set_option linter.unusedVariables false
set_option linter.unusedSimpArgs false
set_option maxRecDepth 100000
namespace View
open Resp

theorem wrg2_no {E : Int} {es fs : List Ent} (h : wrg2 0 es fs = E) (h0 : ¬ E = 0) : (chkE es = E ∨ (chkE es = 0 ∧ chkE fs = E)) ∧ ∀ slot, wrg2 slot es fs = E := by
  unfold wrg2 wrg1 at *
  by_cases h1 : chkE es = 0
  · rw [if_pos h1] at h
    by_cases h2 : chkE fs = 0
    · rw [if_pos h2, if_neg (by omega)] at h
      exact absurd h.symm h0
    · rw [if_neg h2] at h
      exact ⟨.inr ⟨h1, h⟩, fun slot => by rw [if_pos h1, if_neg h2]; exact h⟩
  · rw [if_neg h1] at h
    exact ⟨.inl h, fun slot => by rw [if_neg h1]; exact h⟩
theorem wrg2_slot {slot : Int} {es fs : List Ent} (h : wrg2 0 es fs = 0) : wrg2 slot es fs = if slot < 0 ∨ 4294967295 < slot then 2 else 0 := by
  obtain ⟨h1, h2⟩ := wrg2_ok h
  unfold wrg2 wrg1
  rw [if_pos (wrg1_ok h1).1, if_pos (wrg1_ok h2).1]
theorem mixE_no {E : Int} {es fs : List Ent} {zs : List Int} (h : wrg2 0 es fs = E) (h0 : ¬ E = 0) : mixE es fs zs = E ∧ mixV es fs zs = [] := by
  have h1 : mixE es fs zs = E := by rw [mixE, if_neg (by rw [h]; exact h0), h]
  exact ⟨h1, by rw [mixV, if_neg (by rw [h1]; exact h0)]⟩
theorem agr_no {E slot : Int} {es fs : List Ent} (h : wrg2 slot es fs = E) (h0 : ¬ E = 0) : agrB slot es fs = false := by rw [agrB, decide_eq_false (by rw [h]; exact h0)]; rfl
theorem alk_no {E n slot : Int} {es fs : List Ent} (h : wrg2 slot es fs = E) (h0 : ¬ E = 0) : alkE n slot es fs = E ∧ alkB n slot es fs = false := by
  have h1 : alkE n slot es fs = E := by rw [alkE, if_neg (by rw [h]; exact h0), h]
  exact ⟨h1, by rw [alkB, decide_eq_false (by rw [h1]; exact h0)]; rfl⟩
theorem mixE_ref {es fs : List Ent} {zs : List Int} (h : wrg2 0 es fs = 0) : mixRE es.length fs.length zs = mixE es fs zs := by rw [mixE, if_pos h, mixRE]
theorem mixP_len : ∀ (es : List Ent) (k : Nat) (ps : List (Ent × Int)), (mixP k es ps).length = es.length + ps.length
  | [], k, ps => by simp [mixP]
  | e :: t, k, ps => by
    have h1 := mixP_len t (k + 1) (ps.dropWhile fun p => decide (p.2 ≤ (k : Int)))
    have h2 := congrArg List.length (List.takeWhile_append_dropWhile (p := fun p : Ent × Int => decide (p.2 ≤ (k : Int))) (l := ps))
    rw [List.length_append] at h2
    simp [mixP, h1] at *
    omega
theorem mixV_len {es fs : List Ent} {zs : List Int} (h : es.length ≤ 4000) (h2 : fs.length ≤ 4000) : (mixV es fs zs).length ≤ 8000 := by
  unfold mixV
  split
  · rw [mixP_len, List.length_zip]; omega
  · simp

set_option maxHeartbeats 4000000 in
theorem both_no (n slot : Int) (a b za : Option Addr) (c d zn zc : Nat) (es fs : List Ent) (zs : List Int) (W : World) (h : ScrAt W a es.length es) (h2 : ScrAt W b fs.length fs) (hz : Reads .i64 W (.slice za zn zc) zs) (hzl : zs.length ≤ 1000000) (hk : es.length ≤ 100000) (hk2 : fs.length ≤ 100000) (hb : ∀ e ∈ es, e.bytes.size ≤ 140737488351232) (hb2 : ∀ e ∈ fs, e.bytes.size ≤ 140737488351232) (E : Int) (hE : wrg2 0 es fs = E) (h0 : ¬ E = 0) :
    Calls Tryz.prog 18 #[.slice a es.length c, .slice b fs.length d, .slice za zn zc, .int .i64 n, .int .i64 slot] W fun e w' => e = .returned (.bool true) ∧ Below W.heap.size W w' := by
  have hn : es.length ≤ maxLen := by unfold maxLen; omega
  have hm : fs.length ≤ maxLen := by unfold maxLen; omega
  have HS := Lib.hid h
  have HS2 := Lib.hid h2
  have HY := Lib.hid hb
  have HY2 := Lib.hid hb2
  have HZ := Lib.hid hz
  have HB := Lib.hid (Below.refl W.heap.size W)
  obtain ⟨hch, hws⟩ := wrg2_no hE h0
  have HCH := Lib.hid hch
  have HbA := Lib.hid (agr_no (hws slot) h0)
  have HeA := Lib.hid (hws slot)
  have HbL := Lib.hid (alk_no (n := n) (hws slot) h0).2
  have HeL := Lib.hid (alk_no (n := n) (hws slot) h0).1
  have HeM := Lib.hid (mixE_no (zs := zs) hE h0).1
  have HvM := Lib.hid (mixE_no (zs := zs) hE h0).2
  clear hE hch hws h h2 hb hb2 hz
  go_enter Tryz.func18, Tryz.ntmps18
  go_wp2_with fail
  refine (theirs_any a es.length c es W (HS.out.below HB.out) hk HY.out).mono ?_; rintro e W1 ⟨v, lX, rfl, hl, hr, hb1⟩
  have HX := Lib.hid (Row.of hr)
  obtain ⟨aX, cX, rfl, hcX, -, -, -⟩ := HX.out.scrR hl
  have HLX := Lib.hid hl
  replace HB := Lib.hid (below_step_ HB.out hb1)
  have hz1 := hb1.size
  clear hl hr hb1
  go_wp2_with fail
  refine (theirs_any b fs.length d fs W1 (HS2.out.below HB.out) hk2 HY2.out).mono ?_; rintro e W2 ⟨v, lV, rfl, hl, hr, hb2⟩
  have HV := Lib.hid (Row.of hr)
  obtain ⟨aV, cV, rfl, hcV, -, -, -⟩ := HV.out.scrR hl
  have HLV := Lib.hid hl
  replace HX := Lib.hid (HX.out.below hb2)
  replace HB := Lib.hid (below_step_ HB.out hb2)
  have hz2 := hb2.size
  clear hl hr hb2
  go_wp2_with fail
  refine (Copy_any a es.length c es W2 (HS.out.below HB.out) hk HY.out).mono ?_; rintro e W3 ⟨v, rfl, ho, hb3⟩
  obtain ⟨lP, hl, hG⟩ := ho.grown
  have HP := Lib.hid (Row.of (K := entO) hG)
  obtain ⟨aP, cP, rfl, hcP, hdP, -, -⟩ := HP.out.scrO hl
  have HLP := Lib.hid hl
  replace HX := Lib.hid (HX.out.below hb3)
  replace HV := Lib.hid (HV.out.below hb3)
  replace HB := Lib.hid (below_step_ HB.out hb3)
  have hz3 := hb3.size
  clear ho hl hG hb3
  go_wp2_with fail
  refine (Copy_any b fs.length d fs W3 (HS2.out.below HB.out) hk2 HY2.out).mono ?_; rintro e W4 ⟨v, rfl, ho, hb4⟩
  obtain ⟨lQ, hl, hG⟩ := ho.grown
  have HQ := Lib.hid (Row.of (K := entO) hG)
  obtain ⟨aQ, cQ, rfl, hcQ, hdQ, -, -⟩ := HQ.out.scrO hl
  have HLQ := Lib.hid hl
  replace HX := Lib.hid (HX.out.below hb4)
  replace HV := Lib.hid (HV.out.below hb4)
  replace HP := Lib.hid (HP.out.below hb4)
  replace HB := Lib.hid (below_step_ HB.out hb4)
  have hz4 := hb4.size
  clear ho hl hG hb4
  go_wp2_with fail
  have hcc := Mix_all aP aQ za zn cP cQ zc es fs zs W4 (HP.out.scrO' HLP.out) (HQ.out.scrO' HLQ.out) hn hcQ hdQ (HZ.out.mod (S := fun _ => False) (Mod.of_same HB.out) (by simp)) hzl
  rw [HeM.out, HvM.out] at hcc
  refine hcc.mono ?_; clear hcc; rintro e W5 ⟨v, rfl, ho, hb5⟩
  obtain ⟨aM, cM, rfl⟩ := ho.form
  replace HX := Lib.hid (HX.out.below hb5)
  replace HV := Lib.hid (HV.out.below hb5)
  replace HP := Lib.hid (HP.out.below hb5)
  replace HQ := Lib.hid (HQ.out.below hb5)
  replace HB := Lib.hid (below_step_ HB.out hb5)
  have hz5 := hb5.size
  clear ho hb5
  rw [List.length_nil]
  go_wp2_with fail
  have hcc := Agree_all slot aP aQ cP cQ es fs W5 (HP.out.scrO' HLP.out) (HQ.out.scrO' HLQ.out) hn hm
  rw [HbA.out, HeA.out] at hcc
  refine hcc.mono ?_; clear hcc; rintro e W6 ⟨rfl, hb6⟩
  replace HX := Lib.hid (HX.out.below hb6)
  replace HV := Lib.hid (HV.out.below hb6)
  replace HP := Lib.hid (HP.out.below hb6)
  replace HQ := Lib.hid (HQ.out.below hb6)
  replace HB := Lib.hid (below_step_ HB.out hb6)
  have hz6 := hb6.size
  clear hb6
  go_wp2_with fail
  have hcc := Alike_all n slot aP aQ cP cQ es fs W6 (HP.out.scrO' HLP.out) (HQ.out.scrO' HLQ.out) hn hm
  rw [HbL.out, HeL.out] at hcc
  refine hcc.mono ?_; clear hcc; rintro e W7 ⟨rfl, hb7⟩
  replace HX := Lib.hid (HX.out.below hb7)
  replace HV := Lib.hid (HV.out.below hb7)
  replace HP := Lib.hid (HP.out.below hb7)
  replace HQ := Lib.hid (HQ.out.below hb7)
  replace HB := Lib.hid (below_step_ HB.out hb7)
  have hz7 := hb7.size
  clear hb7
  go_wp2_with fail
  refine (CheckR_any aX es.length cX es W7 (HX.out.scrR' HLX.out).1 hn).mono ?_; rintro e W8 ⟨rfl, hb8⟩
  replace HX := Lib.hid (HX.out.below hb8)
  replace HV := Lib.hid (HV.out.below hb8)
  replace HP := Lib.hid (HP.out.below hb8)
  replace HQ := Lib.hid (HQ.out.below hb8)
  replace HB := Lib.hid (below_step_ HB.out hb8)
  have hz8 := hb8.size
  clear hb8
  obtain ⟨ci, hci⟩ : ∃ x, x = chkI es := ⟨_, rfl⟩
  rw [← hci]
  clear hci
  have hE0 : (E == 0) = false := by simpa using h0
  by_cases hx : chkE es = 0
  · have hy : chkE fs = E := by rcases HCH.out with h | h; exact absurd (h.symm.trans hx) h0; exact h.2
    rw [hx]
    have HHY := Lib.hid hy
    clear hx hy HCH
    go_wp2_with fail
    refine (CheckR_any aV fs.length cV fs W8 (HV.out.scrR' HLV.out).1 hm).mono ?_; rintro e W9 ⟨rfl, hb9⟩
    replace HX := Lib.hid (HX.out.below hb9)
    replace HV := Lib.hid (HV.out.below hb9)
    replace HP := Lib.hid (HP.out.below hb9)
    replace HQ := Lib.hid (HQ.out.below hb9)
    replace HB := Lib.hid (below_step_ HB.out hb9)
    have hz9 := hb9.size
    clear hb9
    rw [HHY.out]
    obtain ⟨ci2, hci⟩ : ∃ x, x = chkI fs := ⟨_, rfl⟩
    rw [← hci]
    clear hci HHY
    go_wp2_with fail
    go_ret
    exact ⟨rfl, HB.out⟩
  · have hy : chkE es = E := by rcases HCH.out with h | h; exact h; exact absurd h.1 hx
    rw [hy]
    clear hx hy HCH
    go_wp2_with fail
    go_ret
    exact ⟨rfl, HB.out⟩
set_option maxHeartbeats 4000000 in
theorem both_ok (n slot : Int) (a b za : Option Addr) (c d zn zc : Nat) (es fs : List Ent) (zs : List Int) (W : World) (h : ScrAt W a es.length es) (h2 : ScrAt W b fs.length fs) (hz : Reads .i64 W (.slice za zn zc) zs) (hzl : zs.length ≤ 1000000) (hk : es.length ≤ 100000) (hk2 : fs.length ≤ 100000) (hb : ∀ e ∈ es, e.bytes.size ≤ 140737488351232) (hb2 : ∀ e ∈ fs, e.bytes.size ≤ 140737488351232) (hE : wrg2 0 es fs = 0) :
    Calls Tryz.prog 18 #[.slice a es.length c, .slice b fs.length d, .slice za zn zc, .int .i64 n, .int .i64 slot] W fun e w' => e = .returned (.bool true) ∧ Below W.heap.size W w' := by
  have hn : es.length ≤ maxLen := by unfold maxLen; omega
  have hm : fs.length ≤ maxLen := by unfold maxLen; omega
  have HS := Lib.hid h
  have HS2 := Lib.hid h2
  have HY := Lib.hid hb
  have HY2 := Lib.hid hb2
  have HZ := Lib.hid hz
  have HB := Lib.hid (Below.refl W.heap.size W)
  have hl4 := (chk_ok (wrg1_ok (wrg2_ok hE).1).1).1
  have hm4 := (chk_ok (wrg1_ok (wrg2_ok hE).2).1).1
  have HC1 := Lib.hid (wrg1_ok (wrg2_ok hE).1).1
  have HC2 := Lib.hid (wrg1_ok (wrg2_ok hE).2).1
  have HWS := Lib.hid (wrg2_slot (slot := slot) hE)
  have HMR := Lib.hid (mixE_ref (zs := zs) hE)
  obtain ⟨bA, hbA⟩ : ∃ x, agrB slot es fs = x := ⟨_, rfl⟩
  have HbA := Lib.hid hbA
  clear hbA
  obtain ⟨eA, heA⟩ : ∃ x, wrg2 slot es fs = x := ⟨_, rfl⟩
  have HeA := Lib.hid heA
  clear heA
  obtain ⟨bL, hbL⟩ : ∃ x, alkB n slot es fs = x := ⟨_, rfl⟩
  have HbL := Lib.hid hbL
  clear hbL
  obtain ⟨eL, heL⟩ : ∃ x, alkE n slot es fs = x := ⟨_, rfl⟩
  have HeL := Lib.hid heL
  clear heL
  obtain ⟨eM, heM⟩ : ∃ x, mixE es fs zs = x := ⟨_, rfl⟩
  have HeM := Lib.hid heM
  clear heM
  clear hE h h2 hb hb2 hz
  go_enter Tryz.func18, Tryz.ntmps18
  go_wp2_with fail
  refine (theirs_any a es.length c es W (HS.out.below HB.out) hk HY.out).mono ?_; rintro e W1 ⟨v, lX, rfl, hl, hr, hb1⟩
  have HX := Lib.hid (Row.of hr)
  obtain ⟨aX, cX, rfl, hcX, -, -, -⟩ := HX.out.scrR hl
  have HLX := Lib.hid hl
  replace HB := Lib.hid (below_step_ HB.out hb1)
  have hz1 := hb1.size
  clear hl hr hb1
  go_wp2_with fail
  refine (theirs_any b fs.length d fs W1 (HS2.out.below HB.out) hk2 HY2.out).mono ?_; rintro e W2 ⟨v, lV, rfl, hl, hr, hb2⟩
  have HV := Lib.hid (Row.of hr)
  obtain ⟨aV, cV, rfl, hcV, -, -, -⟩ := HV.out.scrR hl
  have HLV := Lib.hid hl
  replace HX := Lib.hid (HX.out.below hb2)
  replace HB := Lib.hid (below_step_ HB.out hb2)
  have hz2 := hb2.size
  clear hl hr hb2
  go_wp2_with fail
  refine (Copy_any a es.length c es W2 (HS.out.below HB.out) hk HY.out).mono ?_; rintro e W3 ⟨v, rfl, ho, hb3⟩
  obtain ⟨lP, hl, hG⟩ := ho.grown
  have HP := Lib.hid (Row.of (K := entO) hG)
  obtain ⟨aP, cP, rfl, hcP, hdP, -, -⟩ := HP.out.scrO hl
  have HLP := Lib.hid hl
  replace HX := Lib.hid (HX.out.below hb3)
  replace HV := Lib.hid (HV.out.below hb3)
  replace HB := Lib.hid (below_step_ HB.out hb3)
  have hz3 := hb3.size
  clear ho hl hG hb3
  go_wp2_with fail
  refine (Copy_any b fs.length d fs W3 (HS2.out.below HB.out) hk2 HY2.out).mono ?_; rintro e W4 ⟨v, rfl, ho, hb4⟩
  obtain ⟨lQ, hl, hG⟩ := ho.grown
  have HQ := Lib.hid (Row.of (K := entO) hG)
  obtain ⟨aQ, cQ, rfl, hcQ, hdQ, -, -⟩ := HQ.out.scrO hl
  have HLQ := Lib.hid hl
  replace HX := Lib.hid (HX.out.below hb4)
  replace HV := Lib.hid (HV.out.below hb4)
  replace HP := Lib.hid (HP.out.below hb4)
  replace HB := Lib.hid (below_step_ HB.out hb4)
  have hz4 := hb4.size
  clear ho hl hG hb4
  go_wp2_with fail
  have hcc := Mix_all aP aQ za zn cP cQ zc es fs zs W4 (HP.out.scrO' HLP.out) (HQ.out.scrO' HLQ.out) hn hcQ hdQ (HZ.out.mod (S := fun _ => False) (Mod.of_same HB.out) (by simp)) hzl
  rw [HeM.out] at hcc
  refine hcc.mono ?_; clear hcc; rintro e W5 ⟨v, rfl, ho, hb5⟩
  obtain ⟨lM, hl, hG⟩ := ho.grown
  have HM := Lib.hid (Row.of (K := entO) hG)
  obtain ⟨aM, cM, rfl, -, -, -, -⟩ := HM.out.scrO hl
  have HLM := Lib.hid hl
  replace HX := Lib.hid (HX.out.below hb5)
  replace HV := Lib.hid (HV.out.below hb5)
  replace HP := Lib.hid (HP.out.below hb5)
  replace HQ := Lib.hid (HQ.out.below hb5)
  replace HB := Lib.hid (below_step_ HB.out hb5)
  have hz5 := hb5.size
  clear ho hl hG hb5
  have hlM : (mixV es fs zs).length ≤ 8000 := mixV_len hl4 hm4
  obtain ⟨kM, hkM⟩ : ∃ x, (mixV es fs zs).length = x := ⟨_, rfl⟩
  rw [hkM] at hlM HM ⊢
  have HKM := Lib.hid hkM
  clear hkM
  go_wp2_with fail
  have hcc := Agree_all slot aP aQ cP cQ es fs W5 (HP.out.scrO' HLP.out) (HQ.out.scrO' HLQ.out) hn hm
  rw [HbA.out, HeA.out] at hcc
  refine hcc.mono ?_; clear hcc; rintro e W6 ⟨rfl, hb6⟩
  replace HX := Lib.hid (HX.out.below hb6)
  replace HV := Lib.hid (HV.out.below hb6)
  replace HP := Lib.hid (HP.out.below hb6)
  replace HQ := Lib.hid (HQ.out.below hb6)
  replace HM := Lib.hid (HM.out.below hb6)
  replace HB := Lib.hid (below_step_ HB.out hb6)
  have hz6 := hb6.size
  clear hb6
  go_wp2_with fail
  have hcc := Alike_all n slot aP aQ cP cQ es fs W6 (HP.out.scrO' HLP.out) (HQ.out.scrO' HLQ.out) hn hm
  rw [HbL.out, HeL.out] at hcc
  refine hcc.mono ?_; clear hcc; rintro e W7 ⟨rfl, hb7⟩
  replace HX := Lib.hid (HX.out.below hb7)
  replace HV := Lib.hid (HV.out.below hb7)
  replace HP := Lib.hid (HP.out.below hb7)
  replace HQ := Lib.hid (HQ.out.below hb7)
  replace HM := Lib.hid (HM.out.below hb7)
  replace HB := Lib.hid (below_step_ HB.out hb7)
  have hz7 := hb7.size
  clear hb7
  go_wp2_with fail
  refine (CheckR_any aX es.length cX es W7 (HX.out.scrR' HLX.out).1 hn).mono ?_; rintro e W8 ⟨rfl, hb8⟩
  replace HX := Lib.hid (HX.out.below hb8)
  replace HV := Lib.hid (HV.out.below hb8)
  replace HP := Lib.hid (HP.out.below hb8)
  replace HQ := Lib.hid (HQ.out.below hb8)
  replace HM := Lib.hid (HM.out.below hb8)
  replace HB := Lib.hid (below_step_ HB.out hb8)
  have hz8 := hb8.size
  clear hb8
  rw [HC1.out]
  generalize chkI es = ci
  go_wp2_with fail
  refine (CheckR_any aV fs.length cV fs W8 (HV.out.scrR' HLV.out).1 hm).mono ?_; rintro e W9 ⟨rfl, hb9⟩
  replace HX := Lib.hid (HX.out.below hb9)
  replace HV := Lib.hid (HV.out.below hb9)
  replace HP := Lib.hid (HP.out.below hb9)
  replace HQ := Lib.hid (HQ.out.below hb9)
  replace HM := Lib.hid (HM.out.below hb9)
  replace HB := Lib.hid (below_step_ HB.out hb9)
  have hz9 := hb9.size
  clear hb9
  rw [HC2.out]
  generalize chkI fs = ci2
  go_wp2_with fail
  have hcc := MixR_any aX aV za es.length fs.length zn cX cV zc es fs zs W9 (HX.out.scrR' HLX.out).1 (HV.out.scrR' HLV.out).1 hl4 hm4 (HZ.out.mod (S := fun _ => False) (Mod.of_same HB.out) (by simp)) hzl (fun W' => Dat lX W' ∧ Dat lV W') (fun i e b o v ha he hv W' hW' => (HX.out.scrR' HLX.out).2 i e b o v ha he hv W' hW'.1) (fun i e b o v ha he hv W' hW' => (HV.out.scrR' HLV.out).2 i e b o v ha he hv W' hW'.2)
  refine hcc.mono ?_; clear hcc; rintro e W10 ⟨vw, lw, rfl, hlw, hrw, hb10⟩
  have HLRW := Lib.hid hrw
  rw [HMR.out, HeM.out] at hlw ⊢
  have HSM : Hid (lM.map Prod.fst = lw.map Prod.fst) := by rw [Hid, HLM.out, hlw, mixV, HeM.out]
  replace HX := Lib.hid (HX.out.below hb10)
  replace HV := Lib.hid (HV.out.below hb10)
  replace HP := Lib.hid (HP.out.below hb10)
  replace HQ := Lib.hid (HQ.out.below hb10)
  replace HM := Lib.hid (HM.out.below hb10)
  replace HB := Lib.hid (below_step_ HB.out hb10)
  have hz10 := hb10.size
  clear hlw hrw hb10
  go_wp2_with fail
  have hlM2 : lM.length ≤ 100000 := by have h1 := congrArg List.length HLM.out; have h2 := HKM.out; rw [List.length_map] at h1; omega
  refine (entries_rows HM.out HLRW.out (.inl (by omega)) HSM.out hlM2 (fun B hB => ⟨(HX.out.keep hB (fun g h1 h2 h3 => by have h8 := HM.out.2.2 g h3; omega)).dat, (HV.out.keep hB (fun g h1 h2 h3 => by have h8 := HM.out.2.2 g h3; omega)).dat⟩)).mono ?_; rintro e W11 ⟨rfl, hm11⟩
  replace HX := Lib.hid (HX.out.keep hm11 (fun g h1 h2 h3 => by have h8 := HM.out.2.2 g h3; omega))
  replace HV := Lib.hid (HV.out.keep hm11 (fun g h1 h2 h3 => by have h8 := HM.out.2.2 g h3; omega))
  replace HP := Lib.hid (HP.out.keep hm11 (fun g h1 h2 h3 => by have h8 := HM.out.2.2 g h3; omega))
  replace HQ := Lib.hid (HQ.out.keep hm11 (fun g h1 h2 h3 => by have h8 := HM.out.2.2 g h3; omega))
  replace HB := Lib.hid (HB.out.trans (hm11.below HB.out.size (fun k hk h => by have h8 := HM.out.2.2 k h; omega)))
  have hz11 := hm11.size
  clear hm11 HM
  go_wp2_with fail
  clear HLRW HSM HLM HKM hlM2
  have hlP : lP.length ≤ 100000 := by have h1 := congrArg List.length HLP.out; rw [List.length_map] at h1; omega
  refine (entries_rows HP.out HX.out.lrow (.inr (.inr (fun g hg => by have := HX.out.2.1 g hg; omega))) (HLP.out.trans HLX.out.symm) hlP (fun B hB => (HX.out.keep hB (fun g h1 h2 h3 => by have h8 := HP.out.2.2 g h3; omega)).dat)).mono ?_; rintro e W12 ⟨rfl, hm12⟩
  replace HX := Lib.hid (HX.out.keep hm12 (fun g h1 h2 h3 => by have h8 := HP.out.2.2 g h3; omega))
  replace HV := Lib.hid (HV.out.keep hm12 (fun g h1 h2 h3 => by have h8 := HP.out.2.2 g h3; omega))
  replace HQ := Lib.hid (HQ.out.keep hm12 (fun g h1 h2 h3 => by have h8 := HP.out.2.2 g h3; omega))
  replace HB := Lib.hid (HB.out.trans (hm12.below HB.out.size (fun k hk h => by have h8 := HP.out.2.2 k h; omega)))
  have hz12 := hm12.size
  clear hm12 HP
  go_wp2_with fail
  clear HLP hlP
  have hlQ : lQ.length ≤ 100000 := by have h1 := congrArg List.length HLQ.out; rw [List.length_map] at h1; omega
  refine (entries_rows HQ.out HV.out.lrow (.inr (.inr (fun g hg => by have := HV.out.2.1 g hg; omega))) (HLQ.out.trans HLV.out.symm) hlQ (fun B hB => (HV.out.keep hB (fun g h1 h2 h3 => by have h8 := HQ.out.2.2 g h3; omega)).dat)).mono ?_; rintro e W13 ⟨rfl, hm13⟩
  replace HX := Lib.hid (HX.out.keep hm13 (fun g h1 h2 h3 => by have h8 := HQ.out.2.2 g h3; omega))
  replace HV := Lib.hid (HV.out.keep hm13 (fun g h1 h2 h3 => by have h8 := HQ.out.2.2 g h3; omega))
  replace HB := Lib.hid (HB.out.trans (hm13.below HB.out.size (fun k hk h => by have h8 := HQ.out.2.2 k h; omega)))
  have hz13 := hm13.size
  clear hm13 HQ
  go_wp2_with fail
  clear HLQ hlQ
  refine (Copy_any a es.length c es W13 (HS.out.below HB.out) hk HY.out).mono ?_; rintro e W14 ⟨v, rfl, ho, hb14⟩
  obtain ⟨lP2, hl, hG⟩ := ho.grown
  have HP2 := Lib.hid (Row.of (K := entO) hG)
  obtain ⟨aP2, cP2, rfl, hcP2, hdP2, -, -⟩ := HP2.out.scrO hl
  have HLP2 := Lib.hid hl
  replace HX := Lib.hid (HX.out.below hb14)
  replace HV := Lib.hid (HV.out.below hb14)
  replace HB := Lib.hid (below_step_ HB.out hb14)
  have hz14 := hb14.size
  clear ho hl hG hb14
  go_wp2_with fail
  refine (Copy_any b fs.length d fs W14 (HS2.out.below HB.out) hk2 HY2.out).mono ?_; rintro e W15 ⟨v, rfl, ho, hb15⟩
  obtain ⟨lQ2, hl, hG⟩ := ho.grown
  have HQ2 := Lib.hid (Row.of (K := entO) hG)
  obtain ⟨aQ2, cQ2, rfl, hcQ2, hdQ2, -, -⟩ := HQ2.out.scrO hl
  have HLQ2 := Lib.hid hl
  replace HX := Lib.hid (HX.out.below hb15)
  replace HV := Lib.hid (HV.out.below hb15)
  replace HP2 := Lib.hid (HP2.out.below hb15)
  replace HB := Lib.hid (below_step_ HB.out hb15)
  have hz15 := hb15.size
  clear ho hl hG hb15
  go_wp2_with fail
  have hcc := Agree_all slot aP2 aQ2 cP2 cQ2 es fs W15 (HP2.out.scrO' HLP2.out) (HQ2.out.scrO' HLQ2.out) hn hm
  rw [HbA.out, HeA.out] at hcc
  refine hcc.mono ?_; clear hcc; rintro e W16 ⟨rfl, hb16⟩
  replace HX := Lib.hid (HX.out.below hb16)
  replace HV := Lib.hid (HV.out.below hb16)
  replace HP2 := Lib.hid (HP2.out.below hb16)
  replace HQ2 := Lib.hid (HQ2.out.below hb16)
  replace HB := Lib.hid (below_step_ HB.out hb16)
  have hz16 := hb16.size
  clear hb16
  go_wp2_with fail
  have hcc := Alike_all n slot aP2 aQ2 cP2 cQ2 es fs W16 (HP2.out.scrO' HLP2.out) (HQ2.out.scrO' HLQ2.out) hn hm
  rw [HbL.out, HeL.out] at hcc
  refine hcc.mono ?_; clear hcc; rintro e W17 ⟨rfl, hb17⟩
  replace HX := Lib.hid (HX.out.below hb17)
  replace HV := Lib.hid (HV.out.below hb17)
  replace HP2 := Lib.hid (HP2.out.below hb17)
  replace HQ2 := Lib.hid (HQ2.out.below hb17)
  replace HB := Lib.hid (below_step_ HB.out hb17)
  have hz17 := hb17.size
  clear hb17
  go_wp2_with fail
  by_cases hs : slot < 0 ∨ 4294967295 < slot
  · obtain rfl : eA = 2 := by have h1 := HWS.out; rw [if_pos hs, HeA.out] at h1; exact h1
    obtain rfl : bA = false := by rw [← HbA.out]; exact agr_no HeA.out (by decide)
    obtain rfl : eL = 2 := by rw [← HeL.out]; exact (alk_no HeA.out (by decide)).1
    obtain rfl : bL = false := by rw [← HbL.out]; exact (alk_no HeA.out (by decide)).2
    refine (SlotR_any 0 slot W17).mono ?_; rintro e W18 ⟨rfl, rfl⟩
    rw [slotB_no hs]
    clear hs
    go_wp2_with fail
    go_ret
    exact ⟨rfl, HB.out⟩
  · have hs0 : 0 ≤ slot := by omega
    have hs1 : slot ≤ 4294967295 := by omega
    obtain rfl : eA = 0 := by have h1 := HWS.out; rw [if_neg hs, HeA.out] at h1; exact h1
    have HbF : Hid (bA = decide (framesL slot es = framesL slot fs)) := by rw [Hid, ← HbA.out, agrB, decide_eq_true HeA.out]; rfl
    clear hs
    refine (SlotR_any 0 slot W17).mono ?_; rintro e W18 ⟨rfl, rfl⟩
    rw [slotB_zero hs0 hs1]
    go_wp2_with fail
    refine (AgreeR_any slot aX aV es.length fs.length cX cV es fs W17 (HX.out.scrR' HLX.out).1 (HV.out.scrR' HLV.out).1 hl4 hm4).mono ?_; rintro e W18 ⟨rfl, hb18⟩
    replace HX := Lib.hid (HX.out.below hb18)
    replace HV := Lib.hid (HV.out.below hb18)
    replace HP2 := Lib.hid (HP2.out.below hb18)
    replace HQ2 := Lib.hid (HQ2.out.below hb18)
    replace HB := Lib.hid (below_step_ HB.out hb18)
    have hz18 := hb18.size
    clear hb18
    rw [← HbF.out]
    cases bA
    · by_cases hq : n < 1 ∨ 8 < n ∨ n ≤ slot
      · obtain rfl : eL = 2 := by rw [← HeL.out, alkE, if_pos HeA.out, if_pos hq]
        obtain rfl : bL = false := by rw [← HbL.out, alkB, decide_eq_false (by rw [HeL.out]; decide)]; rfl
        go_wp2_with fail
        by_cases hn0 : n = 0
        · subst hn0
          refine (SlotR_any 0 slot W18).mono ?_; rintro e W19 ⟨rfl, rfl⟩
          rw [slotB_zero hs0 hs1]
          go_wp2_with fail
          go_ret
          exact ⟨rfl, HB.out⟩
        · have hn0' := slotB_arg hs0 hs1 hq hn0
          clear hq
          refine (SlotR_any n slot W18).mono ?_; rintro e W19 ⟨rfl, rfl⟩
          rw [hn0']
          go_wp2_with fail
          go_ret
          exact ⟨rfl, HB.out⟩
      · obtain rfl : eL = 0 := by rw [← HeL.out, alkE, if_pos HeA.out, if_neg hq]
        have HbG : Hid (bL = decide ((mv n slot es).2 = (mv n slot fs).2)) := by rw [Hid, ← HbL.out, alkB, decide_eq_true HeL.out]; rfl
        have hn1 : 1 ≤ n := by omega
        have hn8 : n ≤ 8 := by omega
        have hsn : slot < n := by omega
        have hn0 : ¬ n = 0 := by omega
        clear hq
        go_wp2_with fail
        refine (SlotR_any n slot W18).mono ?_; rintro e W19 ⟨rfl, rfl⟩
        rw [slotB_yes hs0 hs1 hn1 hn8 hsn]
        go_wp2_with fail
        refine (AlikeR_any n slot hn1 hn8 aX aV es.length fs.length cX cV es fs W18 (HX.out.scrR' HLX.out).1 (HV.out.scrR' HLV.out).1 hl4 hm4 hcX hcV).mono ?_; rintro e W19 ⟨rfl, hb19⟩
        replace HX := Lib.hid (HX.out.below hb19)
        replace HV := Lib.hid (HV.out.below hb19)
        replace HP2 := Lib.hid (HP2.out.below hb19)
        replace HQ2 := Lib.hid (HQ2.out.below hb19)
        replace HB := Lib.hid (below_step_ HB.out hb19)
        have hz19 := hb19.size
        clear hb19
        rw [← HbG.out]
        cases bL <;> (go_wp2_with fail; go_ret; exact ⟨rfl, HB.out⟩)
    · by_cases hq : n < 1 ∨ 8 < n ∨ n ≤ slot
      · obtain rfl : eL = 2 := by rw [← HeL.out, alkE, if_pos HeA.out, if_pos hq]
        obtain rfl : bL = false := by rw [← HbL.out, alkB, decide_eq_false (by rw [HeL.out]; decide)]; rfl
        go_wp2_with fail
        by_cases hn0 : n = 0
        · subst hn0
          refine (SlotR_any 0 slot W18).mono ?_; rintro e W19 ⟨rfl, rfl⟩
          rw [slotB_zero hs0 hs1]
          go_wp2_with fail
          go_ret
          exact ⟨rfl, HB.out⟩
        · have hn0' := slotB_arg hs0 hs1 hq hn0
          clear hq
          refine (SlotR_any n slot W18).mono ?_; rintro e W19 ⟨rfl, rfl⟩
          rw [hn0']
          go_wp2_with fail
          go_ret
          exact ⟨rfl, HB.out⟩
      · obtain rfl : eL = 0 := by rw [← HeL.out, alkE, if_pos HeA.out, if_neg hq]
        have HbG : Hid (bL = decide ((mv n slot es).2 = (mv n slot fs).2)) := by rw [Hid, ← HbL.out, alkB, decide_eq_true HeL.out]; rfl
        have hn1 : 1 ≤ n := by omega
        have hn8 : n ≤ 8 := by omega
        have hsn : slot < n := by omega
        have hn0 : ¬ n = 0 := by omega
        clear hq
        go_wp2_with fail
        refine (SlotR_any n slot W18).mono ?_; rintro e W19 ⟨rfl, rfl⟩
        rw [slotB_yes hs0 hs1 hn1 hn8 hsn]
        go_wp2_with fail
        refine (AlikeR_any n slot hn1 hn8 aX aV es.length fs.length cX cV es fs W18 (HX.out.scrR' HLX.out).1 (HV.out.scrR' HLV.out).1 hl4 hm4 hcX hcV).mono ?_; rintro e W19 ⟨rfl, hb19⟩
        replace HX := Lib.hid (HX.out.below hb19)
        replace HV := Lib.hid (HV.out.below hb19)
        replace HP2 := Lib.hid (HP2.out.below hb19)
        replace HQ2 := Lib.hid (HQ2.out.below hb19)
        replace HB := Lib.hid (below_step_ HB.out hb19)
        have hz19 := hb19.size
        clear hb19
        rw [← HbG.out]
        cases bL <;> (go_wp2_with fail; go_ret; exact ⟨rfl, HB.out⟩)
end View
end Go.Proofs.YtdfmgneicdpjmaaGreat

/- The law ViewBoth, over the script's rows. -/
namespace Go.Proofs.YtdfmgneicdpjmaaGreat
open Go.RowKit Go.Shelf
attribute [local go_sem] Oper.semAt_some
set_option linter.unusedVariables false
set_option linter.unusedSimpArgs false
set_option maxRecDepth 100000
namespace View
open Resp

theorem both_any (n slot : Int) (a b za : Option Addr) (k c m d zn zc : Nat) (es fs : List Ent) (zs : List Int) (W : World) (h : ScrAt W a k es) (h2 : ScrAt W b m fs) (hz : Reads .i64 W (.slice za zn zc) zs) (hzl : zs.length ≤ 1000000) (hk : k ≤ 100000) (hk2 : m ≤ 100000) (hb : ∀ e ∈ es, e.bytes.size ≤ 140737488351232) (hb2 : ∀ e ∈ fs, e.bytes.size ≤ 140737488351232) :
    Calls Tryz.prog 18 #[.slice a k c, .slice b m d, .slice za zn zc, .int .i64 n, .int .i64 slot] W fun e w' => e = .returned (.bool true) ∧ Below W.heap.size W w' := by
  obtain rfl : es.length = k := h.1
  obtain rfl : fs.length = m := h2.1
  by_cases hE : wrg2 0 es fs = 0
  · exact both_ok n slot a b za c d zn zc es fs zs W h h2 hz hzl hk hk2 hb hb2 hE
  · exact both_no n slot a b za c d zn zc es fs zs W h h2 hz hzl hk hk2 hb hb2 _ rfl hE
set_option maxHeartbeats 1000000 in
theorem lawBoth (n slot : Int) (a b za : Option Addr) (k c m d zn zc : Nat) (es fs : List Ent) (zs : List Int) (W : World) (h : ScrAt W a k es) (h2 : ScrAt W b m fs) (hz : Reads .i64 W (.slice za zn zc) zs) (hk : k ≤ maxLen) (hk2 : m ≤ maxLen) (hb : ∀ e ∈ es, e.bytes.size ≤ 140737488351232) (hb2 : ∀ e ∈ fs, e.bytes.size ≤ 140737488351232) :
    Calls Tryz.prog 5 #[.slice a k c, .slice b m d, .slice za zn zc, .int .i64 n, .int .i64 slot] W fun e w' => e = .returned (.bool true) ∧ Below W.heap.size W w' := by
  have hzn : zn = zs.length := by
    obtain ⟨a', c', e⟩ := Reads.form_ hz
    injection e with _ e2 _
  have HZN := Lib.hid hzn
  have HS := Lib.hid h
  have HS2 := Lib.hid h2
  have HZ := Lib.hid hz
  have HY := Lib.hid hb
  have HY2 := Lib.hid hb2
  clear h h2 hz hb hb2 hzn
  go_enter Tryz.func5, Tryz.ntmps5
  go_wp2_with fail
  refine (small_any a k c es W HS.out hk).mono ?_; rintro e W1 ⟨b1, rfl, hbn, hb1⟩
  have HB := Lib.hid hb1
  have HBN := Lib.hid hbn
  clear hb1 hbn
  cases b1 with
  | false =>
    go_wp2_with fail
    refine (awake42 W1).mono ?_; rintro e W2 ⟨rfl, hb2⟩
    replace HB := Lib.hid (below_step_ HB.out hb2)
    clear hb2
    go_wp2_with fail
    go_ret
    exact ⟨rfl, HB.out⟩
  | true =>
    have hk4 : k ≤ 4100 := HBN.out rfl
    clear HBN
    go_wp2_with fail
    refine (small_any b m d fs W1 (HS2.out.below HB.out) hk2).mono ?_; rintro e W2 ⟨b2, rfl, hbn, hb2⟩
    replace HB := Lib.hid (below_step_ HB.out hb2)
    have HBN := Lib.hid hbn
    clear hb2 hbn
    cases b2 with
    | false =>
      go_wp2_with fail
      refine (awake42 W2).mono ?_; rintro e W3 ⟨rfl, hb3⟩
      replace HB := Lib.hid (below_step_ HB.out hb3)
      clear hb3
      go_wp2_with fail
      go_ret
      exact ⟨rfl, HB.out⟩
    | true =>
      have hm4 : m ≤ 4100 := HBN.out rfl
      clear HBN
      by_cases h100 : 100 < zn
      · have h100I : (100 : Int) < (zn : Int) := by omega
        go_wp2_with fail
        refine (awake42 W2).mono ?_; rintro e W3 ⟨rfl, hb3⟩
        replace HB := Lib.hid (below_step_ HB.out hb3)
        clear hb3
        go_wp2_with fail
        go_ret
        exact ⟨rfl, HB.out⟩
      · have h100I : ¬ (100 : Int) < (zn : Int) := by omega
        go_wp2_with fail
        refine (both_any n slot a b za k c m d zn zc es fs zs W2 (HS.out.below HB.out) (HS2.out.below HB.out) (HZ.out.mod (S := fun _ => False) (Mod.of_same HB.out) (by simp)) (by have := HZN.out; omega) (by omega) (by omega) HY.out HY2.out).mono ?_; rintro e W3 ⟨rfl, hb3⟩
        replace HB := Lib.hid (below_step_ HB.out hb3)
        clear hb3
        go_wp2_with fail
        refine (awake42 W3).mono ?_; rintro e W4 ⟨rfl, hb4⟩
        replace HB := Lib.hid (below_step_ HB.out hb4)
        clear hb4
        go_wp2_with fail
        go_ret
        exact ⟨rfl, HB.out⟩
end View
end Go.Proofs.YtdfmgneicdpjmaaGreat
