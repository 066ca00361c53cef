/- Lists of lists of bytes; bytes.Equal, slices.EqualFunc, Begins and the reference's Begins; slices.Equal over ints. -/
import Derived.Test.YtdfmgneicdpjmaaGreatRespC
import Derived.Laws.BytesArg
import Derived.BigQuiet
import Derived.Handy
namespace Go.Proofs.YtdfmgneicdpjmaaGreat
open Go.RowKit Go.Shelf
set_option linter.unusedVariables false
set_option linter.unusedSimpArgs false
set_option maxRecDepth 100000
namespace Resp

theorem take_eq_step_ {xs ys : List Int} {k : Nat} (h : xs.take k = ys.take k) (hx : k < xs.length) (hy : k < ys.length) (he : xs[k] = ys[k]) : xs.take (k + 1) = ys.take (k + 1) := by
  rw [List.take_succ_eq_append_getElem hx, List.take_succ_eq_append_getElem hy, h]
  rw [he]

theorem EqualI_any (v1 v2 : Value) (xs ys : List Int) (w : World) (h1 : Reads .i64 w v1 xs) (h2 : Reads .i64 w v2 ys) :
    Calls Tryz.prog 41 #[v1, v2] w fun e w' => e = .returned (.bool (decide (xs = ys))) ∧ ∃ n, w' = w.drewN n := by
  by_cases hl : xs.length = ys.length
  · by_cases h0 : xs.length = 0
    · have hx : xs = [] := List.length_eq_zero_iff.1 h0
      have hy : ys = [] := List.length_eq_zero_iff.1 (by omega)
      subst hx hy
      have hv : ∀ {v : Value}, Reads .i64 w v [] → ∃ a c, v = .slice a 0 c := by
        rintro v (⟨a, c, h, -⟩ | ⟨b, o, c, h, -⟩)
        · exact ⟨_, _, h⟩
        · exact ⟨_, _, h⟩
      obtain ⟨a1, c1, rfl⟩ := hv h1
      obtain ⟨a2, c2, rfl⟩ := hv h2
      clear hv h1 h2 hl h0
      go_enter Tryz.func41, Tryz.ntmps41
      go_wp2
      go_loop [13, 5] (fun i _ => i = .int .i64 0) (fun _ _ => 0)
      case atStart => rfl
      case round =>
        subst hrel
        go_wp2
        go_ret
        exact ⟨rfl, 0, rfl⟩
    · rcases h1 with ⟨a1, d1, rfl, rfl⟩ | ⟨b1, o1, c1, rfl, hl1, hc1⟩
      · simp at h0
      rcases h2 with ⟨a2, d2, rfl, rfl⟩ | ⟨b2, o2, c2, rfl, hl2, hc2⟩
      · simp at hl; exact absurd (by simp [hl]) h0
      have hne : ((xs.length : Int) != (ys.length : Int)) = false := by simp [hl]
      have hle : ys.length ≤ xs.length := by omega
      have HL := Lib.hid hl
      unfold maxLen at hl1 hl2
      clear hl
      go_enter Tryz.func41, Tryz.ntmps41
      go_wp2
      go_loopw [13, 5] (fun i _ wr => ∃ k : Nat, k ≤ xs.length ∧ i = .int .i64 k ∧ Hid (xs.take k = ys.take k) ∧ ∃ m, wr = w.drewN m) (fun i _ _ => xs.length - (intOf i).toNat)
      case atStart => exact ⟨0, Nat.zero_le _, rfl, rfl, 0, rfl⟩
      case round =>
        obtain ⟨k, hk, rfl, HT, m, rfl⟩ := hrel
        by_cases hlt : k < xs.length
        · have hlt2 : k < ys.length := by have := HL.out; omega
          have e1 := hc1 k hlt
          have e2 := hc2 k hlt2
          rw [List.getElem?_eq_getElem hlt, Option.getD_some] at e1
          rw [List.getElem?_eq_getElem hlt2, Option.getD_some] at e2
          by_cases heq : xs[k] = ys[k]
          · have hq : (xs[k] != ys[k]) = false := by simpa using heq
            have HE := Lib.hid (take_eq_step_ HT.out hlt hlt2 heq)
            clear heq hc1 hc2
            go_wp2
            go_quiet (fail)
            go_wp2
            exact ⟨⟨k + 1, by omega, by simp, HE.out, _, rfl⟩, by simp [intOf]; omega⟩
          · have hq : (xs[k] != ys[k]) = true := by simpa using heq
            have HE : Hid (decide (xs = ys) = false) := by
              rw [Hid, decide_eq_false_iff_not]; rintro rfl; exact heq rfl
            clear heq hc1 hc2
            go_wp2
            go_quiet (fail)
            go_wp2
            go_ret
            exact ⟨by rw [HE.out]; rfl, m + nq, by simp⟩
        · obtain rfl : k = xs.length := by omega
          have HE : Hid (decide (xs = ys) = true) := by
            rw [Hid, decide_eq_true_eq]
            have := HT.out
            rwa [List.take_of_length_le (Nat.le_refl _), List.take_of_length_le (by have := HL.out; omega)] at this
          go_wp2
          go_ret
          exact ⟨by rw [HE.out]; rfl, _, rfl⟩
  · have hv : ∀ {v : Value} {zs : List Int}, Reads .i64 w v zs → ∃ a c, v = .slice a zs.length c := by
      rintro v zs (⟨a, c, h, rfl⟩ | ⟨b, o, c, h, -⟩)
      · exact ⟨_, _, h⟩
      · exact ⟨_, _, h⟩
    obtain ⟨a1, c1, rfl⟩ := hv h1
    obtain ⟨a2, c2, rfl⟩ := hv h2
    have hne : ((xs.length : Int) != (ys.length : Int)) = true := by simp; omega
    have HE : Hid (decide (xs = ys) = false) := by
      rw [Hid, decide_eq_false_iff_not]; rintro rfl; exact hl rfl
    clear hv h1 h2 hl
    go_enter Tryz.func41, Tryz.ntmps41
    go_wp2
    go_ret
    exact ⟨by rw [HE.out]; rfl, 0, rfl⟩

/-- v holds bytes that make up the string s. -/
def StrAt (W : World) (v : Value) (s : ByteArray) : Prop := ∃ zs : List Int, Reads .u8 W v zs ∧ strOfNums zs = s
theorem StrAt.form {W : World} {v : Value} {s : ByteArray} (h : StrAt W v s) : ∃ a c, v = .slice a s.size c := by
  obtain ⟨zs, h, rfl⟩ := h
  obtain ⟨a, c, rfl⟩ := Reads.form_ h
  exact ⟨a, c, by rw [strOfNums_size]⟩
theorem StrAt.mod {S : Nat → Prop} {W W' : World} {v : Value} {s : ByteArray} (h : StrAt W v s) (hm : Mod S W W') (hS : ∀ g, ¬ S g) : StrAt W' v s := by
  obtain ⟨zs, h, e⟩ := h
  exact ⟨zs, h.mod hm (fun g _ => hS g), e⟩
theorem StrAt.drewN {W : World} {v : Value} {s : ByteArray} (n : Nat) (h : StrAt W v s) : StrAt (W.drewN n) v s := h
theorem StrAt.convert {W : World} {v : Value} {s : ByteArray} (h : StrAt W v s) : (convert 25 9 v).run Tryz.prog W = .ok (.string s) W := by
  obtain ⟨zs, h, rfl⟩ := h
  have hs : Tryz.prog.underlying 25 = some (.slice 5) := Tryz.underlying25
  have he : Tryz.prog.underlying 5 = some (.int .u8) := Tryz.underlying5
  have hd : Tryz.prog.underlying 9 = some .string := Tryz.underlying9
  rcases h with ⟨a, c, rfl, rfl⟩ | ⟨b, o, c, rfl, hl, hc⟩
  · rw [run_convert_bytes_string W _ _ _ a 0 c hs he hd]
    cases a with
    | none => simp [Conv.bytesToString]; rfl
    | some a => 
      have := run_bytesToString (P := Tryz.prog) W a 0 c [] (by simpa using run_loadCells_list (P := Tryz.prog) W a [] (fun j v hj => by simp at hj))
      rw [this]
      rfl
  · exact run_convert_bytes_arg W _ _ hs he b o _ c zs rfl (fun i hi => by rw [hc i hi]; simp [List.getD]) _ hd
theorem streq_ (s1 s2 : ByteArray) : (s1.toList == s2.toList) = decide (s1 = s2) := by
  by_cases h : s1 = s2
  · simp [h]
  · rw [decide_eq_false h, beq_eq_false_iff_ne]
    rw [ByteArray.toList_eq, ByteArray.toList_eq]
    intro e
    apply h
    cases s1
    cases s2
    simp only [ByteArray.mk.injEq]
    exact Array.toList_inj.1 e
theorem EqualB_any (v1 v2 : Value) (s1 s2 : ByteArray) (W : World) (h1 : StrAt W v1 s1) (h2 : StrAt W v2 s2) :
    Calls Tryz.prog 33 #[v1, v2] W fun e w' => e = .returned (.bool (decide (s1 = s2))) ∧ w' = W := by
  have e1 := h1.convert
  have e2 := h2.convert
  obtain ⟨a1, c1, rfl⟩ := h1.form
  obtain ⟨a2, c2, rfl⟩ := h2.form
  clear h1 h2
  go_enter Tryz.func33, Tryz.ntmps33
  go_wp2_with fail
  go_ret
  exact ⟨by rw [← streq_]; rfl, rfl⟩
/-- The slice (a, n) holds the strings ss. -/
def RowsAt (W : World) (a : Option Addr) (n : Nat) (ss : List ByteArray) : Prop := ss.length = n ∧ ∀ i u, ss[i]? = some u → ∃ b o v, a = some ⟨b, o, none⟩ ∧ W.cell? ⟨b, o + i, none⟩ = some v ∧ StrAt W v u
theorem RowsAt.mod {S : Nat → Prop} {W W' : World} {a : Option Addr} {n : Nat} {ss : List ByteArray} (h : RowsAt W a n ss) (hm : Mod S W W') (hS : ∀ g, ¬ S g) : RowsAt W' a n ss :=
  ⟨h.1, fun i u hu => by
    obtain ⟨b, o, v, e, hc, hs⟩ := h.2 i u hu
    exact ⟨b, o, v, e, hm.cell (hS _) hc, hs.mod hm hS⟩⟩
theorem RowsAt.take {W : World} {a : Option Addr} {n : Nat} {ss : List ByteArray} (h : RowsAt W a n ss) {k : Nat} (hk : k ≤ n) : RowsAt W a k (ss.take k) :=
  ⟨by rw [List.length_take, h.1]; omega, fun i u hu => h.2 i u (by
    rw [List.getElem?_take] at hu
    split at hu
    · exact hu
    · cases hu)⟩
theorem take_eq_stepS_ {xs ys : List ByteArray} {k : Nat} (h : xs.take k = ys.take k) (hx : k < xs.length) (hy : k < ys.length) (he : xs[k] = ys[k]) : xs.take (k + 1) = ys.take (k + 1) := by
  rw [List.take_succ_eq_append_getElem hx, List.take_succ_eq_append_getElem hy, h, he]
set_option maxHeartbeats 1000000 in
theorem EqualFunc_any (a1 a2 : Option Addr) (n m c1 c2 : Nat) (xs ys : List ByteArray) (W : World) (h1 : RowsAt W a1 n xs) (h2 : RowsAt W a2 m ys) (hn : n ≤ 1000000) :
    Calls Tryz.prog 31 #[.slice a1 n c1, .slice a2 m c2, .func (.func 33) #[] #[]] W fun e w' => e = .returned (.bool (decide (xs = ys))) ∧ Below W.heap.size W w' := by
  obtain ⟨hx, h1⟩ := h1
  obtain ⟨hy, h2⟩ := h2
  by_cases hnm : n = m
  · have hne : ((n : Int) != (m : Int)) = false := by simp [hnm]
    have HX := Lib.hid hx
    have HY := Lib.hid hy
    have HNM := Lib.hid hnm
    have H1 := Lib.hid h1
    have H2 := Lib.hid h2
    clear hx hy h1 h2 hnm
    have hnI : (n : Int) ≤ 1000000 := by omega
    go_enter Tryz.func31, Tryz.ntmps31
    go_wp2_with fail
    go_loopw [17, 9, 8, 7] (fun i _ _ _ wr => ∃ k : Nat, k ≤ n ∧ i = .int .i64 k ∧ Hid (xs.take k = ys.take k) ∧ Below W.heap.size W wr) (fun i _ _ _ _ => n - (intOf i).toNat)
    case atStart => exact ⟨0, Nat.zero_le _, rfl, rfl, Below.refl _ _⟩
    case round =>
      obtain ⟨k, hk, rfl, HT, hb⟩ := hrel
      by_cases hlt : k < n
      · have hltI : (k : Int) < n := by omega
        have hlt2 : k < m := by rw [← HNM.out]; exact hlt
        have hx1 : k < xs.length := by rw [HX.out]; exact hlt
        have hy1 : k < ys.length := by rw [HY.out]; exact hlt2
        have hltJ : (k : Int) < m := by omega
        have hm : Mod (fun _ => False) W wr := Mod.of_same hb
        obtain ⟨b1, o1, v1, e1, q1, s1⟩ := H1.out k _ (List.getElem?_eq_getElem hx1)
        obtain ⟨b2, o2, v2, e2, q2, s2⟩ := H2.out k _ (List.getElem?_eq_getElem hy1)
        subst e1 e2
        replace q1 := hm.cell (by simp) q1
        replace q2 := hm.cell (by simp) q2
        replace s1 := s1.mod hm (by simp)
        replace s2 := s2.mod hm (by simp)
        have HB := Lib.hid hb
        have HXY : Hid (∀ h : xs[k] = ys[k], xs.take (k + 1) = ys.take (k + 1)) := fun h => take_eq_stepS_ HT.out hx1 hy1 h
        have HNE : Hid (∀ h : ¬ xs[k] = ys[k], decide (xs = ys) = false) := by
          intro h
          rw [decide_eq_false_iff_not]
          rintro rfl
          exact h rfl
        have HC := Lib.hid (EqualB_any v1 v2 _ _ wr s1 s2)
        clear hm hb s1 s2
        generalize xs[k] = x at *
        generalize ys[k] = y at *
        by_cases hxy : x = y
        · have hd : decide (x = y) = true := decide_eq_true hxy
          replace HXY := Lib.hid (HXY.out hxy)
          rw [hd] at HC
          clear hd hxy HNE
          go_wp2_with fail
          refine HC.out.mono ?_; rintro e w2 ⟨rfl, e2⟩
          subst e2
          go_wp2_with fail
          exact ⟨⟨k + 1, by omega, by simp, HXY.out, HB.out⟩, by simp [intOf]; omega⟩
        · have hd : decide (x = y) = false := decide_eq_false hxy
          replace HNE := Lib.hid (HNE.out hxy)
          rw [hd] at HC
          clear hd hxy HXY
          go_wp2_with fail
          refine HC.out.mono ?_; rintro e w2 ⟨rfl, e2⟩
          subst e2
          go_wp2_with fail
          go_ret
          exact ⟨by rw [HNE.out]; rfl, HB.out⟩
      · obtain rfl : k = n := by omega
        have HE : Hid (decide (xs = ys) = true) := by
          rw [Hid, decide_eq_true_eq]
          have := HT.out
          rwa [List.take_of_length_le (by rw [HX.out]; exact Nat.le_refl _), List.take_of_length_le (by rw [HY.out, HNM.out]; exact Nat.le_refl _)] at this
        go_wp2_with fail
        go_ret
        exact ⟨by rw [HE.out]; rfl, hb⟩
  · have hne : ((n : Int) != (m : Int)) = true := by simp; omega
    have HE : Hid (decide (xs = ys) = false) := by
      rw [Hid, decide_eq_false_iff_not]; rintro rfl; exact hnm (hx.symm.trans hy)
    clear h1 h2
    go_enter Tryz.func31, Tryz.ntmps31
    go_wp2_with fail
    go_ret
    exact ⟨by rw [HE.out]; rfl, Below.refl _ _⟩
/-- Whether the strings a begin the strings b. -/
def begB (a b : List ByteArray) : Bool := decide (a = b.take a.length)
set_option maxHeartbeats 1000000 in
theorem Begins_any (a1 a2 : Option Addr) (n m c1 c2 : Nat) (xs ys : List ByteArray) (W : World) (h1 : RowsAt W a1 n xs) (h2 : RowsAt W a2 m ys) (hn : n ≤ 1000000) (hm : m ≤ 1000000) (hmc : m ≤ c2) (hcm : c2 ≤ maxLen) :
    Calls Tryz.prog 13 #[.slice a1 n c1, .slice a2 m c2] W fun e w' => e = .returned (.bool (begB xs ys)) ∧ Below W.heap.size W w' := by
  unfold maxLen at hcm
  have hnI : (n : Int) ≤ 1000000 := by omega
  have hmI : (m : Int) ≤ 1000000 := by omega
  have hcI : (m : Int) ≤ c2 := by omega
  by_cases hnm : n ≤ m
  · have hle : (n : Int) ≤ m := by omega
    have hnc : n ≤ c2 := by omega
    have HC := Lib.hid (EqualFunc_any a1 a2 n n c1 c2 xs (ys.take n) W h1 (h2.take hnm) hn)
    have HE : Hid (begB xs ys = decide (xs = ys.take n)) := by rw [Hid, begB, h1.1]
    rw [← HE.out] at HC
    clear HE h1 h2
    generalize begB xs ys = r at *
    go_enter Tryz.func13, Tryz.ntmps13
    go_wp2_with fail
    refine HC.out.mono ?_; rintro e w2 ⟨rfl, hb⟩
    go_wp2_with fail
    go_ret
    exact ⟨rfl, hb⟩
  · have hle : ¬ (n : Int) ≤ m := by omega
    have HE : Hid (begB xs ys = false) := by
      rw [Hid, begB, decide_eq_false_iff_not]
      intro e
      have := congrArg List.length e
      rw [List.length_take, h1.1, h2.1] at this
      omega
    clear h1 h2
    go_enter Tryz.func13, Tryz.ntmps13
    go_wp2_with fail
    go_ret
    exact ⟨by rw [HE.out]; rfl, Below.refl _ _⟩
theorem below_drewB_ {B : Nat} {a w : World} (h : Below B a w) : ∀ k, Below B a (w.drewN k)
  | 0 => h
  | k + 1 => ⟨(below_drewB_ h k).os, (below_drewB_ h k).tape, (below_drewB_ h k).output, (below_drewB_ h k).size, (below_drewB_ h k).block⟩
set_option maxHeartbeats 1000000 in
theorem BeginsR_any (a1 a2 : Option Addr) (n m c1 c2 : Nat) (xs ys : List ByteArray) (W : World) (h1 : RowsAt W a1 n xs) (h2 : RowsAt W a2 m ys) (hn : n ≤ 1000000) (hm : m ≤ 1000000) :
    Calls Tryz.prog 14 #[.slice a1 n c1, .slice a2 m c2] W fun e w' => e = .returned (.bool (begB xs ys)) ∧ Below W.heap.size W w' := by
  have hnI : (n : Int) ≤ 1000000 := by omega
  have hmI : (m : Int) ≤ 1000000 := by omega
  obtain ⟨hx, h1⟩ := h1
  obtain ⟨hy, h2⟩ := h2
  by_cases hnm : n ≤ m
  · have hle : (n : Int) ≤ m := by omega
    have hgt : ¬ (n : Int) > m := by omega
    have HX := Lib.hid hx
    have HY := Lib.hid hy
    have H1 := Lib.hid h1
    have H2 := Lib.hid h2
    clear hx hy h1 h2
    go_enter Tryz.func14, Tryz.ntmps14
    go_wp2_with fail
    go_loopw [5] (fun i wr => ∃ k : Nat, k ≤ n ∧ i = .int .i64 k ∧ Hid (xs.take k = ys.take k) ∧ Below W.heap.size W wr) (fun i _ => n - (intOf i).toNat)
    case atStart => exact ⟨0, Nat.zero_le _, rfl, rfl, Below.refl _ _⟩
    case round =>
      obtain ⟨k, hk, rfl, HT, hb⟩ := hrel
      by_cases hlt : k < n
      · have hltI : (k : Int) < n := by omega
        have hlt2 : k < m := by omega
        have hx1 : k < xs.length := by rw [HX.out]; exact hlt
        have hy1 : k < ys.length := by rw [HY.out]; exact hlt2
        have hltJ : (k : Int) < m := by omega
        have hm : Mod (fun _ => False) W wr := Mod.of_same hb
        obtain ⟨b1, o1, v1, e1, q1, s1⟩ := H1.out k _ (List.getElem?_eq_getElem hx1)
        obtain ⟨b2, o2, v2, e2, q2, s2⟩ := H2.out k _ (List.getElem?_eq_getElem hy1)
        subst e1 e2
        replace q1 := hm.cell (by simp) q1
        replace q2 := hm.cell (by simp) q2
        replace s1 := s1.mod hm (by simp)
        replace s2 := s2.mod hm (by simp)
        have HB := Lib.hid hb
        have HXY : Hid (∀ h : xs[k] = ys[k], xs.take (k + 1) = ys.take (k + 1)) := fun h => take_eq_stepS_ HT.out hx1 hy1 h
        have HNE : Hid (∀ h : ¬ xs[k] = ys[k], begB xs ys = false) := by
          intro h
          rw [begB, decide_eq_false_iff_not]
          intro e
          apply h
          have h3 : xs[k]? = (ys.take xs.length)[k]? := congrArg (·[k]?) e
          rw [List.getElem?_take, if_pos hx1, List.getElem?_eq_getElem hx1, List.getElem?_eq_getElem hy1] at h3
          injection h3
        have s3 := fun j => (s1.drewN j).convert
        have s4 := fun j => (s2.drewN j).convert
        clear hm hb s1 s2
        generalize xs[k] = x at *
        generalize ys[k] = y at *
        have hd := streq_ x y
        by_cases hxy : x = y
        · rw [decide_eq_true hxy] at hd
          replace HXY := Lib.hid (HXY.out hxy)
          have hd' : (x.toList != y.toList) = false := by simp [bne, hd]
          clear hxy HNE
          go_wp2_with fail
          go_quiet (fail)
          go_wp2_with fail
          exact ⟨⟨k + 1, by omega, by simp, HXY.out, below_drewB_ HB.out nq⟩, by simp [intOf]; omega⟩
        · rw [decide_eq_false hxy] at hd
          have hd' : (x.toList != y.toList) = true := by simp [bne, hd]
          replace HNE := Lib.hid (HNE.out hxy)
          clear hxy HXY
          go_wp2_with fail
          go_quiet (fail)
          go_wp2_with fail
          go_ret
          exact ⟨by rw [HNE.out]; rfl, below_drewB_ HB.out nq⟩
      · obtain rfl : k = n := by omega
        have HE : Hid (begB xs ys = true) := by
          rw [Hid, begB, decide_eq_true_eq]
          have := HT.out
          rw [List.take_of_length_le (by rw [HX.out]; exact Nat.le_refl _)] at this
          rw [HX.out]
          exact this
        go_wp2_with fail
        go_ret
        exact ⟨by rw [HE.out]; rfl, hb⟩
  · have hle : (m : Int) < n := by omega
    have HE : Hid (begB xs ys = false) := by
      rw [Hid, begB, decide_eq_false_iff_not]
      intro e
      have := congrArg List.length e
      rw [List.length_take, hx, hy] at this
      omega
    clear h1 h2
    go_enter Tryz.func14, Tryz.ntmps14
    go_wp2_with fail
    go_ret
    exact ⟨by rw [HE.out]; rfl, Below.refl _ _⟩
end Resp
end Go.Proofs.YtdfmgneicdpjmaaGreat
