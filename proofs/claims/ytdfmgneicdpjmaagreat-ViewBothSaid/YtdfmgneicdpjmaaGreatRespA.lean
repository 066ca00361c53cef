/- Numbers as bytes: num.Size, num.Append. -/
import Derived.Test.YtdfmgneicdpjmaaGreatFermLib2
import Derived.Deep.RegionHeld3
import Derived.Deep.AppendLies
import Derived.Deep.Cut
import Derived.IntWalk
namespace Go.Proofs.YtdfmgneicdpjmaaGreat
open Go.RowKit Go.Shelf
set_option linter.unusedVariables false
set_option linter.unusedSimpArgs false
set_option maxRecDepth 100000
namespace Resp

/-- How many bytes a number has, written to the base 256. -/
def numLen (x : Nat) : Nat := if h : x = 0 then 0 else numLen (x / 256) + 1
termination_by x
decreasing_by omega
theorem numLen_pos {x : Nat} (h : 0 < x) : numLen x = numLen (x / 256) + 1 := by rw [numLen, dif_neg (by omega)]
theorem numLen_zero : numLen 0 = 0 := by rw [numLen, dif_pos rfl]
theorem numLen_le : ∀ (k x : Nat), x < 256 ^ k → numLen x ≤ k
  | 0, x, h => by
    obtain rfl : x = 0 := by simpa using h
    rw [numLen_zero]; exact Nat.le_refl _
  | k + 1, x, h => by
    by_cases h0 : x = 0
    · subst h0; rw [numLen_zero]; omega
    · rw [numLen_pos (by omega)]
      have := numLen_le k (x / 256) (Nat.div_lt_of_lt_mul (by rw [Nat.pow_succ, Nat.mul_comm] at h; exact h))
      omega
def sizeN (x : Nat) : Nat := if x ≤ 246 then 1 else numLen x + 1

theorem Size_any (x : Nat) (hx : x < 18446744073709551616) (w : World) :
    Calls Tryz.prog 239 #[.int .u64 x] w fun e w' => e = .returned (.int .i64 (sizeN x : Nat)) ∧ w = w' := by
  by_cases h : x ≤ 246
  · have hI : (x : Int) ≤ 246 := by omega
    have HS : Hid (sizeN x = 1) := by rw [Hid, sizeN, if_pos h]
    go_enter Tryz.func239, Tryz.ntmps239
    go_wp2
    go_ret
    exact ⟨by rw [HS.out]; rfl, rfl⟩
  · have hI : ¬ (x : Int) ≤ 246 := by omega
    have HS : Hid (sizeN x = numLen x + 1) := by rw [Hid, sizeN, if_neg h]
    go_enter Tryz.func239, Tryz.ntmps239
    go_wp2_with fail
    go_loopw [0, 3] (fun y m wr => ∃ (z c : Nat), y = .int .u64 z ∧ m = .int .i64 c ∧ Hid (c + numLen z = numLen x + 1) ∧ z < 18446744073709551616 ∧ c ≤ 1000 ∧ wr = w) (fun y _ _ => (intOf y).toNat)
    case atStart => exact ⟨x, 1, rfl, rfl, by rw [Hid]; omega, hx, by omega, rfl⟩
    case round =>
      clear hI h
      obtain ⟨z, c, rfl, rfl, HC, hz, hc, rfl⟩ := hrel
      have hl := numLen_le 8 x (by simpa using hx)
      by_cases h0 : z = 0
      · subst h0
        have hc0 : c = numLen x + 1 := by have := HC.out; rw [numLen_zero] at this; omega
        have HC0 := Lib.hid hc0
        clear HC hc0 hl
        go_wp2
        go_ret
        exact ⟨by rw [HS.out, HC0.out]; rfl, rfl⟩
      · have h1 : 0 < z := by omega
        have h1I : (0 : Int) < z := by omega
        have hcc : c + 1 + numLen (z / 256) = numLen x + 1 := by have := HC.out; rw [numLen_pos h1] at this; omega
        have HCC := Lib.hid hcc
        have hc9 : c + 1 ≤ 1000 := by omega
        have hcI : (c : Int) + 1 ≤ 1000 := by omega
        clear HC hcc hl h0
        go_wp2_with fail
        exact ⟨⟨z / 256, c + 1, by simp, by simp, HCC.out, by omega, hc9, trivial⟩, by simp [intOf]; omega⟩

theorem infoByte : (Tryz.prog.info? 5).map (fun i => (i.zero, i.size, i.bytes)) = some (some (.int .u8 0), 1, 1) := by kernel_rfl
theorem sizeN_small {x : Nat} (h : x ≤ 246) : sizeN x = 1 := by rw [sizeN, if_pos h]
theorem ownsRow_form {W : World} {base : Nat} {e : TypeId} {size : Nat} {v : Value} {k : Nat} {xs : List Value} (h : W.ownsRow base e size v k xs) : ∃ a cap, v = .slice a k cap := by
  rcases h.2 with ⟨rfl, rfl⟩ | ⟨g, cap, cur, rfl, _⟩
  · exact ⟨_, _, rfl⟩
  · exact ⟨_, _, rfl⟩

theorem below_alloc_ {a w : World} (h : Below a.heap.size a w) (o : Obj) : Below a.heap.size a (w.alloc o) := h.alloc h.size o
theorem below_drew_ {a w : World} (h : Below a.heap.size a w) : Below a.heap.size a w.drew := ⟨h.os, h.tape, h.output, h.size, h.block⟩
theorem owns_up {a w : World} {base : Nat} {e : TypeId} {size : Nat} {v : Value} {n : Nat} {xs : List Value} (h : a.ownsRow base e size v n xs) (hb : Below a.heap.size a w) : w.ownsRow base e size v n xs := ownsRow_mod (S := fun _ => False) h (Mod.of_same hb) (by simp)
theorem news_one_ {W : World} {b : Nat} {x : Value} (h : W.cell? ⟨b, 0, none⟩ = some x) (j : Nat) (u : Value) (hj : [x][j]? = some u) : W.cell? ((⟨b, 0, none⟩ : Addr).add j) = some u := by
  rcases j with _ | j
  · have e : x = u := by simpa using hj
    subst e
    simpa [Addr.add] using h
  · simp at hj
theorem news_mod_ {S : Nat → Prop} {W W' : World} {B : Nat} {xs : List Value} (hm : Mod S W W') (hB : ¬ S B) (h : ∀ (j : Nat) (u : Value), xs[j]? = some u → W.cell? ((⟨B, 0, none⟩ : Addr).add j) = some u) (j : Nat) (u : Value) (hj : xs[j]? = some u) : W'.cell? ((⟨B, 0, none⟩ : Addr).add j) = some u := by
  refine hm.cell ?_ (h j u hj)
  rcases j with _ | j <;> simpa [Addr.add] using hB
theorem ownBlock_lt_ {W : World} {base : Nat} {e : TypeId} {size : Nat} {v : Value} {k : Nat} {xs : List Value} (h : W.ownsRow base e size v k xs) {g : Nat} (hg : v.ownBlock = some g) : g < W.heap.size := by
  rcases h.2 with ⟨rfl, rfl⟩ | ⟨g', cap, cur, rfl, hb, hgg, rest⟩
  · cases hg
  · cases hg; exact (Array.getElem?_eq_some_iff.1 hgg).1
theorem mod_trans_up_ {S T : Nat → Prop} {a b c : World} (h : Mod S a b) (h' : Mod T b c) (hT : ∀ k, k < a.heap.size → T k → S k) : Mod S a c :=
  ⟨h'.os.trans h.os, h'.tape.trans h.tape, h'.output.trans h.output, Nat.le_trans h.size h'.size, fun k hk hS => (h'.block k (Nat.lt_of_lt_of_le hk h.size) fun hTk => hS (hT k hk hTk)).trans (h.block k hk hS)⟩
theorem Append_small (x : Nat) (hx : x ≤ 246) (base n : Nat) (v : Value) (xs : List Value) (w : World) (hown : w.ownsRow base 5 1 v n xs) (hn : n ≤ 1048576) (hbase : base ≤ w.heap.size) :
    Calls Tryz.prog 197 #[v, .int .u64 x] w fun e w' => ∃ v', e = .returned v' ∧ w'.ownsRow base 5 1 v' (n + 1) (xs ++ [.int .u8 x]) ∧ Mod (fun k => some k = v.ownBlock) w w' := by
  obtain ⟨i0, hi, hz0, hz1, hz2⟩ := info_parts infoByte
  obtain ⟨a, c, e⟩ := ownsRow_form hown
  subst e
  have hxI : (x : Int) ≤ 246 := by omega
  go_enter Tryz.func197, Tryz.ntmps197
  go_wp2_with fail
  refine (Size_any x (by omega) _).mono ?_; rintro e w' ⟨rfl, rfl⟩; rw [sizeN_small hx]
  go_wp2_with (at_builtin; refine wpList_append_own _ rfl _ _ 25 rfl base 5 i0 (.int .u8 0) 1 1 Tryz.underlying25 hi hz0 hz1 hz2 rfl (by decide) _ _ _ rfl (hown.alloc _) ⟨w.heap.size, 0, none⟩ 1 1 [.int .u8 (x : Int)] rfl rfl (cell_one_new _ _ _) (by simp [Value.oneCell']) (by unfold maxLen; omega) (by omega) (by simp; omega) ?_; intro v' w3 hown' hgrow _)
  have hg2 : (w.alloc (.cells #[.int .u8 (x : Int)] 5)).grownBy w3 (Value.slice a n c).ownBlock := hgrow
  go_ret
  exact ⟨v', rfl, hown', ((Mod.refl _ w).alloc _).trans ((Mod.of_grownBy hg2).mono fun k _ e => e)⟩

/-- The array of digits when those from k on are written. -/
def digs (x L k : Nat) : Array Value := ((List.range 8).map fun j => Value.int .u8 (if k ≤ j ∧ j < L then ((x / 256 ^ (L - 1 - j) % 256 : Nat) : Int) else 0)).toArray
theorem digs_none (x L : Nat) : digs x L L = #[.int .u8 0, .int .u8 0, .int .u8 0, .int .u8 0, .int .u8 0, .int .u8 0, .int .u8 0, .int .u8 0] := by
  have h : ∀ j, ¬ (L ≤ j ∧ j < L) := fun j h => by omega
  simp [digs, h, List.range, List.range.loop]
theorem digs_size (x L k : Nat) : (digs x L k).size = 8 := by simp [digs]
theorem digs_at {x L k j : Nat} (hj : j < 8) : (digs x L k)[j]? = some (.int .u8 (if k ≤ j ∧ j < L then ((x / 256 ^ (L - 1 - j) % 256 : Nat) : Int) else 0)) := by simp [digs, hj]
theorem digs_set {x L k : Nat} (hk : k < L) (hL : L ≤ 8) : (digs x L (k + 1)).setIfInBounds k (.int .u8 ((x / 256 ^ (L - 1 - k) % 256 : Nat) : Int)) = digs x L k := by
  apply Array.ext_getElem?
  intro j
  rw [Array.getElem?_setIfInBounds]
  by_cases hj : j < 8
  · rw [digs_at hj, digs_at hj]
    by_cases e : k = j
    · subst e
      rw [if_pos rfl, if_pos (by rw [digs_size]; omega), if_pos ⟨Nat.le_refl _, hk⟩]
    · rw [if_neg e]
      by_cases h : k ≤ j ∧ j < L
      · rw [if_pos h, if_pos (by omega)]
      · rw [if_neg h, if_neg (by omega)]
  · rw [Array.getElem?_eq_none (by rw [digs_size]; omega), Array.getElem?_eq_none (by rw [digs_size]; omega)]
    split
    · split
      · rw [digs_size] at *; omega
      · rfl
    · rfl
def DigsAt (W : World) (B x L k : Nat) : Prop := W.heap[B]? = some (.cells (digs x L k) 370 (0, 0))
theorem DigsAt.cell {W : World} {B x L k j : Nat} (h : DigsAt W B x L k) (hj : j < 8) : W.cell? ⟨B, j, none⟩ = some (.int .u8 (if k ≤ j ∧ j < L then ((x / 256 ^ (L - 1 - j) % 256 : Nat) : Int) else 0)) := by
  simp only [World.cell?, show W.heap[B]? = _ from h]
  simpa using digs_at hj
theorem DigsAt.frozen {W : World} {B x L k : Nat} (h : DigsAt W B x L k) (j : Nat) : W.frozen? ⟨B, j, none⟩ = false := by simp [World.frozen?, show W.heap[B]? = _ from h]
theorem DigsAt.set {W : World} {B x L k : Nat} (h : DigsAt W B x L (k + 1)) (hk : k < L) (hL : L ≤ 8) : DigsAt (W.setCell ⟨B, k, none⟩ (.int .u8 ((x / 256 ^ (L - 1 - k) % 256 : Nat) : Int))) B x L k := by
  obtain ⟨hlt, he⟩ := Array.getElem?_eq_some_iff.1 h
  show (W.heap.modify B _)[B]? = _
  rw [Array.getElem?_eq_getElem (by rw [Array.size_modify]; exact hlt), Array.getElem_modify_self, he, ← digs_set hk hL]
  rfl

set_option maxHeartbeats 2000000 in
theorem Append_big (x : Nat) (hx0 : 246 < x) (hx : x < 18446744073709551616) (base n : Nat) (v : Value) (xs : List Value) (w : World) (hown : w.ownsRow base 5 1 v n xs) (hn : n ≤ 1048576) (hbase : base ≤ w.heap.size) :
    Calls Tryz.prog 197 #[v, .int .u64 x] w fun e w' => ∃ v', e = .returned v' ∧ w'.ownsRow base 5 1 v' (n + (numLen x + 1)) (xs ++ (.int .u8 ((246 + numLen x : Nat) : Int) :: (List.range (numLen x)).map fun j => .int .u8 ((x / 256 ^ (numLen x - 1 - j) % 256 : Nat) : Int))) ∧ Mod (fun k => some k = v.ownBlock) w w' := by
  obtain ⟨i0, hi, hz0, hz1, hz2⟩ := info_parts infoByte
  obtain ⟨a, c, e⟩ := ownsRow_form hown
  subst e
  have hsz : sizeN x = numLen x + 1 := by rw [sizeN, if_neg (by omega)]
  have hL8 := numLen_le 8 x (by simpa using hx)
  have hL1 : 0 < numLen x := by rw [numLen_pos (by omega)]; omega
  go_enter Tryz.func197, Tryz.ntmps197
  go_wp2_with fail
  refine (Size_any x hx _).mono ?_; rintro e w' ⟨rfl, rfl⟩; rw [hsz]
  generalize hLx : numLen x = L at *
  have HLX := Lib.hid hLx
  clear hLx
  have hL8I : (L : Int) ≤ 8 := by omega
  have hL1I : (1 : Int) ≤ L := by omega
  go_wp2_with fail
  have hD0 : DigsAt (w.alloc (.cells #[.int .u8 0, .int .u8 0, .int .u8 0, .int .u8 0, .int .u8 0, .int .u8 0, .int .u8 0, .int .u8 0] 370)) w.heap.size x L L := by
    rw [DigsAt, digs_none]; exact World.alloc_heap_new w _
  have hb0 : Below w.heap.size w (w.alloc (.cells #[.int .u8 0, .int .u8 0, .int .u8 0, .int .u8 0, .int .u8 0, .int .u8 0, .int .u8 0, .int .u8 0] 370)) := (Below.refl _ _).alloc (Nat.le_refl _) _
  generalize w.alloc (.cells #[.int .u8 0, .int .u8 0, .int .u8 0, .int .u8 0, .int .u8 0, .int .u8 0, .int .u8 0, .int .u8 0] 370) = W0 at *
  have HO := Lib.hid hown
  clear hown
  go_loopw [7, 1] (fun i y wr => ∃ (k z : Nat), k ≤ L ∧ i = .int .i64 ((k : Int) - 1) ∧ y = .int .u64 z ∧ Hid (z = x / 256 ^ (L - k)) ∧ DigsAt wr w.heap.size x L k ∧ Below w.heap.size w wr) (fun i _ _ => (intOf i + 1).toNat)
  case atStart => exact ⟨L, x, Nat.le_refl _, by congr 1; omega, rfl, by rw [Hid, Nat.sub_self, Nat.pow_zero, Nat.div_one], hD0, hb0⟩
  case round =>
    clear hD0 hb0
    obtain ⟨k, z, hk, rfl, rfl, HZ, hD, hb⟩ := hrel
    obtain ⟨wo, rfl⟩ : ∃ wo : World, wo = wr := ⟨_, rfl⟩
    cases k with
    | zero =>
      have hO2 := ownsRow_mod (S := fun _ => False) HO.out (Mod.of_same hb) (by simp)
      have hnews : ∀ (j : Nat) (u : Value), ((List.range L).map fun j => Value.int .u8 ((x / 256 ^ (L - 1 - j) % 256 : Nat) : Int))[j]? = some u → wo.cell? ((⟨w.heap.size, 0, none⟩ : Addr).add j) = some u := by
        intro j u hu
        have hj : j < L := by
          rcases Nat.lt_or_ge j L with h | h
          · exact h
          · rw [List.getElem?_eq_none (by simpa using h)] at hu; cases hu
        have hc := hD.cell (show j < 8 by omega)
        rw [if_pos ⟨Nat.zero_le _, hj⟩] at hc
        have e : Value.int .u8 ((x / 256 ^ (L - 1 - j) % 256 : Nat) : Int) = u := by simpa [hj] using hu
        rw [← e]
        rcases j with _ | j <;> simpa [Addr.add] using hc
      have HN := Lib.hid hnews
      have HO2 := Lib.hid hO2
      have hzb := hb.size
      have HB := Lib.hid hb
      have HNE : Hid (¬ some w.heap.size = (Value.slice a n c).ownBlock) := fun e => Nat.lt_irrefl _ (ownBlock_lt_ HO.out e.symm)
      have HC1 : Hid (∀ u ∈ (List.range L).map fun j => Value.int .u8 ((x / 256 ^ (L - 1 - j) % 256 : Nat) : Int), u.oneCell' = true) := by
        intro u hu
        obtain ⟨j, _, rfl⟩ := List.mem_map.1 hu
        rfl
      have hHs := Lib.hid ((Array.getElem?_eq_some_iff.1 hD).1)
      clear hD hnews hO2 hb HO HZ
      have hw1 : IntKind.i64.wrap (246 + ((L : Int) + 1)) = 246 + ((L : Int) + 1) := IntWalk.i64_in _ (by omega)
      have hw2 : IntKind.i64.wrap (246 + ((L : Int) + 1) - 1) = 246 + (L : Int) := by rw [IntWalk.i64_in _ (by omega)]; omega
      have hw3 : IntKind.u8.wrap (246 + (L : Int)) = 246 + (L : Int) := by rw [IntKind.wrap_u8]; omega
      have hw4 : IntKind.i64.wrap (L : Int) = (L : Int) := IntWalk.i64_in _ (by omega)
      have hL0I : (0 : Int) ≤ (L : Int) := by omega
      go_wp2_with fail
      go_region_held3? (fun _ => True) (trivial)
        ((first
          | (refine step_append_lies _ (by rfl) _ _ _ (by rfl) base 5 i0 _ 1 1 Tryz.underlying25 hi hz0 hz1 hz2 rfl (by omega) (.slice a n c) n xs (by rfl) (owns_up HO2.out (by repeat (first | exact Below.refl _ _ | refine below_alloc_ ?_ _ | refine below_drew_ ?_))) _ 1 1 [.int .u8 (246 + (L : Int))] (by rfl) (by rfl) (news_one_ (by simp)) (by simp [Value.oneCell']) (by omega) (by unfold maxLen; omega) (by omega) (by simp; try omega) _ (by rfl) ?_; intro g1 c1 w1 hown1 hgrow1 hat1 hlt1; have HO1 := Lib.hid hown1; have HG1 := Lib.hid hgrow1; have HA1 := Lib.hid hat1; clear hown1 hgrow1 hat1)
          | (refine step_append_lies _ (by rfl) _ _ _ (by rfl) base 5 i0 _ 1 1 Tryz.underlying25 hi hz0 hz1 hz2 rfl (by omega) (.slice (some ⟨g1, 0, none⟩) (n + 1) c1) (n + 1) (xs ++ [.int .u8 (246 + (L : Int))]) (by rfl) HO1.out ⟨w.heap.size, 0, none⟩ L 8 ((List.range L).map fun j => Value.int .u8 ((x / 256 ^ (L - 1 - j) % 256 : Nat) : Int)) (by rfl) (by simp) (news_mod_ (S := fun k => some k = (Value.slice a n c).ownBlock) ((Mod.of_same (by repeat (first | exact Below.refl _ _ | refine below_alloc_ ?_ _ | refine below_drew_ ?_))).trans (Mod.of_grownBy HG1.out)) HNE.out HN.out) HC1.out (by omega) (by unfold maxLen; omega) (by omega) (by have := HG1.out.size; simp at this; omega) _ (by rfl) ?_; intro g2 c2 w2 hown2 hgrow2 hat2 hlt2)))
      have hS : w.heap.size ≤ w1.heap.size := by have := HG1.out.size; simp at this; omega
      have hm1 : Mod (fun k => some k = (Value.slice a n c).ownBlock) w w1 := (Mod.of_same HB.out).trans ((Mod.of_same (by repeat (first | exact Below.refl _ _ | refine below_alloc_ ?_ _ | refine below_drew_ ?_))).trans (Mod.of_grownBy HG1.out))
      have hm2 := mod_trans_up_ hm1 (Mod.of_grownBy hgrow2) (fun k hk e => by
        rcases HA1.out with h | h
        · exact e.trans h.symm
        · have e2 : k = g1 := by simpa [Value.ownBlock] using e
          rw [e2, h] at hk
          simp at hk
          omega)
      go_wp2_with fail
      go_ret
      rw [HLX.out]
      refine ⟨_, rfl, ?_, hm2⟩
      rw [show n + (L + 1) = n + 1 + L by omega, show xs ++ (Value.int .u8 ((246 + L : Nat) : Int) :: (List.range L).map fun j => Value.int .u8 ((x / 256 ^ (L - 1 - j) % 256 : Nat) : Int)) = xs ++ [.int .u8 (246 + (L : Int))] ++ (List.range L).map fun j => Value.int .u8 ((x / 256 ^ (L - 1 - j) % 256 : Nat) : Int) by simp]
      exact hown2
    | succ k =>
      have hk8 : k < 8 := by omega
      have d0 := hD.cell hk8
      have df := hD.frozen k
      have hz : (z % 256 : Nat) = x / 256 ^ (L - 1 - k) % 256 := by rw [HZ.out, show L - (k + 1) = L - 1 - k by omega]
      have hnx := hD.set (by omega) (by omega)
      rw [← hz] at hnx
      have HNX := Lib.hid hnx
      have hkI : (k : Int) < 8 := by omega
      clear hnx hz
      go_wp2_with fail
      refine ⟨⟨k, z / 256, by omega, rfl, by simp, ?_, by simpa using HNX.out, hb.setCell (p := ⟨w.heap.size, k, none⟩) (Nat.le_refl _) _⟩, by simp [intOf]⟩
      rw [Hid, HZ.out, Nat.div_div_eq_div_mul, ← Nat.pow_succ, show (L - (k + 1)).succ = L - k by omega]
end Resp
end Go.Proofs.YtdfmgneicdpjmaaGreat
