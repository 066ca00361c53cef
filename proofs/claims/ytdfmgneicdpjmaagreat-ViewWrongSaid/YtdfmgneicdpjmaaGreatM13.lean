import Derived.Test.YtdfmgneicdpjmaaGreatM12
import Derived.Test.YtdfmgneicdpjmaaGreatM02
import Derived.Laws.BytesArg
import Derived.BigQuiet
import Derived.Handy
/- num.Last, num.Int, field.Value at whatever bytes; what was written is read. -/
namespace Go.Proofs.YtdfmgneicdpjmaaGreat
open Go.RowKit Go.Shelf
set_option linter.unusedVariables false
set_option linter.unusedSimpArgs false
set_option maxRecDepth 100000
namespace Resp

theorem readN_bds {zs : List Int} (hz : Octets zs) (p : Nat) (hp : p ≤ zs.length) : 0 ≤ (readN zs p).1 ∧ (readN zs p).1 < 18446744073709551616 ∧ 0 ≤ (readN zs p).2.1 ∧ p + (readN zs p).2.1 ≤ zs.length ∧ ((readN zs p).2.2 = 0 → 1 ≤ (readN zs p).2.1) ∧ ((readN zs p).2.2 = 0 ∨ (readN zs p).2.2 = 10 ∨ (readN zs p).2.2 = 11) := by
  by_cases hpl : zs.length ≤ p
  · unfold readN
    rw [if_pos hpl]
    simp; omega
  · have hlt : p < zs.length := by omega
    rw [readN_at hlt]
    have hx := hz _ (List.getElem_mem hlt)
    generalize zs[p] = x at *
    by_cases h1 : x ≤ 246
    · rw [if_pos h1]; simp; omega
    · rw [if_neg h1]
      by_cases h2 : x = 255
      · rw [if_pos h2]; simp; omega
      · rw [if_neg h2]
        by_cases h3 : (zs.length : Int) - p - 1 < x - 246
        · rw [if_pos h3]; simp; omega
        · rw [if_neg h3]
          by_cases h4 : zs[p + 1]?.getD 0 = 0 ∨ beV ((zs.drop (p + 1)).take (x - 246).toNat) ≤ 246
          · rw [if_pos h4]; simp; omega
          · rw [if_neg h4]
            have hb := beV_lt (hz.drop (p + 1)) (x - 246).toNat (by simp; omega)
            have h9 : (256 : Nat) ^ (x - 246).toNat ≤ 256 ^ 8 := Nat.pow_le_pow_right (by omega) (by omega)
            have h8 : (256 : Nat) ^ 8 = 18446744073709551616 := by decide
            have h7 : (256 : Int) ^ (x - 246).toNat = ((256 ^ (x - 246).toNat : Nat) : Int) := by simp
            rw [h7] at hb
            refine ⟨hb.1, by omega, by simp; omega, by simp; omega, by simp; omega, .inl rfl⟩
def lastV (zs : List Int) : Int × Int × Int := if (readN zs 0).2.2 = 0 then (if (readN zs 0).2.1 < zs.length then (0, 0, 11) else ((readN zs 0).1, (readN zs 0).2.1, 0)) else (0, 0, (readN zs 0).2.2)
def LaN (W : World) (zs : List Int) (e : Ending) (w' : World) : Prop := e = .returned (.tuple #[.int .u64 (lastV zs).1, .int .i64 (lastV zs).2.1, .int .i64 (lastV zs).2.2]) ∧ W = w'
theorem LaN.mk {W : World} {zs : List Int} {x y z : Int} (h : lastV zs = (x, y, z)) : LaN W zs (.returned (.tuple #[.int .u64 x, .int .i64 y, .int .i64 z])) W := ⟨by rw [h], rfl⟩
theorem NumLast_any (v : Value) (zs : List Int) (W : World) (h : Reads .u8 W v zs) (hz : Octets zs) (hl : zs.length ≤ 100000) :
    Calls Tryz.prog 273 #[v] W (LaN W zs) := by
  have hv : ∃ a c, v = .slice a zs.length c := by
    rcases h with ⟨a, c, rfl, rfl⟩ | ⟨b, o, c, rfl, _⟩
    · exact ⟨_, _, rfl⟩
    · exact ⟨_, _, rfl⟩
  obtain ⟨a, c, rfl⟩ := hv
  have HC := Lib.hid (NumRead_any _ zs W 0 h hz hl (Nat.zero_le _))
  have HL := Lib.hid (show lastV zs = if (readN zs 0).2.2 = 0 then (if (readN zs 0).2.1 < zs.length then (0, 0, 11) else ((readN zs 0).1, (readN zs 0).2.1, 0)) else (0, 0, (readN zs 0).2.2) from rfl)
  obtain ⟨b1, b2, b3, b4, b5, b6⟩ := readN_bds hz 0 (Nat.zero_le _)
  have HR : Hid (∀ e w', RdN W zs 0 e w' → e = .returned (.tuple #[.int .u64 (readN zs 0).1, .int .i64 (readN zs 0).2.1, .int .i64 (readN zs 0).2.2]) ∧ W = w') := fun e w' h => h
  clear h hz b5 b6
  generalize readN zs 0 = r at *
  obtain ⟨x, n, e9⟩ := r
  simp only at *
  go_enter Tryz.func273, Tryz.ntmps273
  go_wp2_with fail
  refine HC.out.mono ?_; rintro e w1 hq
  obtain ⟨rfl, rfl⟩ := HR.out e w1 hq
  clear hq HR HC
  by_cases h1 : e9 = 0
  · by_cases h2 : n < zs.length
    · have HF := Lib.hid (show lastV zs = (0, 0, 11) by rw [HL.out, if_pos h1, if_pos h2])
      have h2d : decide (n < (zs.length : Int)) = true := by simpa using h2
      subst h1
      clear HL
      go_wp2_with fail
      go_returns
      exact LaN.mk HF.out
    · have HF := Lib.hid (show lastV zs = (x, n, 0) by rw [HL.out, if_pos h1, if_neg h2])
      have h2d : decide (n < (zs.length : Int)) = false := by simpa using h2
      subst h1
      clear HL
      go_wp2_with fail
      go_returns
      exact LaN.mk HF.out
  · have HF := Lib.hid (show lastV zs = (0, 0, e9) by rw [HL.out, if_neg h1])
    have h1d : (e9 != 0) = true := by simpa using h1
    clear HL h1
    go_wp2_with fail
    go_returns
    exact LaN.mk HF.out
/-- What num.Int returns at place p, of numbers up to a most. -/
def intN (zs : List Int) (p : Nat) (most : Int) : Int × Int × Int := if (readN zs p).2.2 = 0 then (if most < (readN zs p).1 then (0, 0, 12) else ((readN zs p).1, (readN zs p).2.1, 0)) else (0, 0, (readN zs p).2.2)
def InN (W : World) (zs : List Int) (p : Nat) (most : Int) (e : Ending) (w' : World) : Prop := e = .returned (.tuple #[.int .i64 (intN zs p most).1, .int .i64 (intN zs p most).2.1, .int .i64 (intN zs p most).2.2]) ∧ W = w'
theorem InN.mk {W : World} {zs : List Int} {p : Nat} {most x y z : Int} (h : intN zs p most = (x, y, z)) : InN W zs p most (.returned (.tuple #[.int .i64 x, .int .i64 y, .int .i64 z])) W := ⟨by rw [h], rfl⟩
theorem NumInt_any (v : Value) (zs : List Int) (W : World) (p : Nat) (most : Int) (hm0 : 0 ≤ most) (hm1 : most ≤ 9223372036854775807) (h : Reads .u8 W v zs) (hz : Octets zs) (hl : zs.length ≤ 100000) (hp : p ≤ zs.length) :
    Calls Tryz.prog 167 #[v, .int .i64 (p : Int), .int .i64 0, .int .i64 most] W (InN W zs p most) := by
  have HC := Lib.hid (NumRead_any v zs W p h hz hl hp)
  have HL := Lib.hid (show intN zs p most = if (readN zs p).2.2 = 0 then (if most < (readN zs p).1 then (0, 0, 12) else ((readN zs p).1, (readN zs p).2.1, 0)) else (0, 0, (readN zs p).2.2) from rfl)
  obtain ⟨b1, b2, b3, b4, b5, b6⟩ := readN_bds hz p hp
  have HR : Hid (∀ e w', RdN W zs p e w' → e = .returned (.tuple #[.int .u64 (readN zs p).1, .int .i64 (readN zs p).2.1, .int .i64 (readN zs p).2.2]) ∧ W = w') := fun e w' h => h
  clear h hz b5 b6
  generalize readN zs p = r at *
  obtain ⟨x, n, e9⟩ := r
  simp only at *
  have hw0 : IntKind.u64.wrap most = most := by rw [IntKind.wrap_u64]; omega
  have hd0 : decide (most < 0) = false := by simpa using hm0
  go_enter Tryz.func167, Tryz.ntmps167
  go_wp2_with fail
  refine HC.out.mono ?_; rintro e w1 hq
  obtain ⟨rfl, rfl⟩ := HR.out e w1 hq
  clear hq HR HC
  by_cases h1 : e9 = 0
  · by_cases h2 : most < x
    · have HF := Lib.hid (show intN zs p most = (0, 0, 12) by rw [HL.out, if_pos h1, if_pos h2])
      have h2d : decide (most < x) = true := by simpa using h2
      have h2e : decide (x > most) = true := by simpa using h2
      subst h1
      clear HL
      go_wp2_with fail
      go_returns
      exact InN.mk HF.out
    · have HF := Lib.hid (show intN zs p most = (x, n, 0) by rw [HL.out, if_pos h1, if_neg h2])
      have h2d : decide (most < x) = false := by simpa using h2
      have h2e : decide (x > most) = false := by simpa using h2
      have hw1 : IntKind.i64.wrap x = x := by rw [IntKind.wrap_i64]; omega
      subst h1
      clear HL
      go_wp2_with fail
      go_returns
      exact InN.mk HF.out
  · have HF := Lib.hid (show intN zs p most = (0, 0, e9) by rw [HL.out, if_neg h1])
    have h1d : (e9 != 0) = true := by simpa using h1
    clear HL h1
    go_wp2_with fail
    go_returns
    exact InN.mk HF.out
theorem Value_any (tag : Int) (v : Value) (zs : List Int) (W : World) (h : Reads .u8 W v zs) (hz : Octets zs) (hl : zs.length ≤ 100000) :
    Calls Tryz.prog 238 #[.agg #[.int .i64 tag, v]] W fun e w' => e = .returned (.tuple #[.int .u64 (lastV zs).1, .int .i64 (lastV zs).2.2]) ∧ Below W.heap.size W w' := by
  have hv : ∃ a c, v = .slice a zs.length c := by
    rcases h with ⟨a, c, rfl, rfl⟩ | ⟨b, o, c, rfl, _⟩
    · exact ⟨_, _, rfl⟩
    · exact ⟨_, _, rfl⟩
  obtain ⟨a, c, rfl⟩ := hv
  have HB := Lib.hid ((Below.refl _ _).alloc (Nat.le_refl W.heap.size) (.cells #[.int .i64 tag, .slice a zs.length c] 141))
  have HC := Lib.hid (NumLast_any _ zs _ (h.mod (S := fun _ => False) (Mod.of_same HB.out) (by simp)) hz hl)
  have HR : Hid (∀ W e w', LaN W zs e w' → e = .returned (.tuple #[.int .u64 (lastV zs).1, .int .i64 (lastV zs).2.1, .int .i64 (lastV zs).2.2]) ∧ W = w') := fun W e w' h => h
  clear h hz
  generalize lastV zs = r at *
  obtain ⟨x, n, e9⟩ := r
  simp only at *
  go_enter Tryz.func238, Tryz.ntmps238
  go_wp2_with fail
  refine HC.out.mono ?_; rintro e w1 hq
  obtain ⟨rfl, rfl⟩ := HR.out _ e w1 hq
  clear hq HR HC
  go_wp2_with fail
  go_returns
  exact ⟨rfl, HB.out⟩
end Resp
end Go.Proofs.YtdfmgneicdpjmaaGreat

/- What was written as a number is read as it. -/
namespace Go.Proofs.YtdfmgneicdpjmaaGreat
open Go.RowKit Go.Shelf
set_option linter.unusedVariables false
set_option linter.unusedSimpArgs false
namespace Resp

theorem numLen_ge : ∀ (n x : Nat), x ≤ n → 0 < x → 256 ^ (numLen x - 1) ≤ x ∧ x < 256 ^ numLen x
  | 0, x, h, h0 => by omega
  | n + 1, x, h, h0 => by
    rw [numLen_pos h0]
    by_cases h1 : x / 256 = 0
    · rw [h1, numLen_zero]
      simp; omega
    · obtain ⟨h2, h3⟩ := numLen_ge n (x / 256) (by omega) (by omega)
      have h4 : 0 < numLen (x / 256) := by rw [numLen_pos (by omega)]; omega
      obtain ⟨m, hm⟩ : ∃ m, numLen (x / 256) = m + 1 := ⟨numLen (x / 256) - 1, by omega⟩
      rw [hm] at h2 h3 ⊢
      simp only [Nat.add_sub_cancel] at h2 ⊢
      rw [Nat.pow_succ] at h3 ⊢
      rw [Nat.pow_succ, Nat.pow_succ]
      constructor <;> omega
def digL (x L : Nat) : List Int := (List.range L).map fun j => ((x / 256 ^ (L - 1 - j) % 256 : Nat) : Int)
theorem digL_len (x L : Nat) : (digL x L).length = L := by simp [digL]
theorem digL_at {x L k : Nat} (h : k < L) : (digL x L)[k]'(by rw [digL_len]; exact h) = ((x / 256 ^ (L - 1 - k) % 256 : Nat) : Int) := by simp [digL]
theorem beV_dig {x L : Nat} (h : x < 256 ^ L) : ∀ k, k ≤ L → beV ((digL x L).take k) = ((x / 256 ^ (L - k) : Nat) : Int)
  | 0, _ => by
    rw [Nat.sub_zero, Nat.div_eq_of_lt h]
    simp [beV]
  | k + 1, hk => by
    have hk2 : k < (digL x L).length := by rw [digL_len]; omega
    rw [beV_take hk2, beV_dig h k (by omega), digL_at (by omega : k < L)]
    have h1 : L - k = (L - 1 - k) + 1 := by omega
    have h2 : L - (k + 1) = L - 1 - k := by omega
    rw [h1, h2, Nat.pow_succ, ← Nat.div_div_eq_div_mul]
    generalize x / 256 ^ (L - 1 - k) = q
    omega
theorem octets_num {x : Nat} (hx : x < 18446744073709551616) : Octets (numBytes x) := by
  have h8 := numLen_le 8 x (by simpa using hx)
  unfold numBytes
  split
  · intro z hz
    obtain rfl := List.mem_singleton.1 hz
    omega
  · intro z hz
    rcases List.mem_cons.1 hz with rfl | hz
    · omega
    · obtain ⟨j, hj, rfl⟩ := List.mem_map.1 hz
      omega
theorem last_num {x : Nat} (hx : x < 18446744073709551616) : lastV (numBytes x) = ((x : Int), ((sizeN x : Nat) : Int), 0) := by
  have h8 := numLen_le 8 x (by simpa using hx)
  by_cases h : x ≤ 246
  · have h1 : numBytes x = [(x : Int)] := by unfold numBytes; rw [if_pos h]
    have h2 : readN [(x : Int)] 0 = ((x : Int), 1, 0) := by
      rw [readN_at (by simp)]
      rw [if_pos (by simp; omega)]
      rfl
    rw [h1, lastV, h2, sizeN_small h]
    simp
  · have h1 : numBytes x = ((246 + numLen x : Nat) : Int) :: digL x (numLen x) := by unfold numBytes; rw [if_neg h]; rfl
    obtain ⟨h2, h3⟩ := numLen_ge x x (Nat.le_refl _) (by omega)
    have h4 : 0 < numLen x := by rw [numLen_pos (by omega)]; omega
    have hb := beV_dig h3 (numLen x) (Nat.le_refl _)
    rw [Nat.sub_self, Nat.pow_zero, Nat.div_one] at hb
    have hr : readN (numBytes x) 0 = ((x : Int), ((numLen x : Nat) : Int) + 1, 0) := by
      rw [h1, readN_at (by simp)]
      simp only [List.getElem_cons_zero, List.length_cons, digL_len, Nat.zero_add, List.drop_succ_cons, List.drop_zero]
      rw [if_neg (by omega), if_neg (by omega), if_neg (by omega)]
      have h5 : (((246 + numLen x : Nat) : Int) - 246).toNat = numLen x := by omega
      rw [h5, hb, if_neg]
      · congr 2
        omega
      · rintro (h6 | h6)
        · rw [List.getElem?_cons_succ, List.getElem?_eq_getElem (by rw [digL_len]; exact h4)] at h6
          simp only [Option.getD_some] at h6
          rw [digL_at h4, Nat.sub_zero] at h6
          have h7 : x / 256 ^ (numLen x - 1) < 256 := by
            refine Nat.div_lt_of_lt_mul ?_
            rw [← Nat.pow_succ]
            have : numLen x - 1 + 1 = numLen x := by omega
            rw [Nat.succ_eq_add_one, this]
            exact h3
          have h9 : 0 < x / 256 ^ (numLen x - 1) := Nat.div_pos h2 (Nat.pow_pos (by omega))
          rw [Nat.mod_eq_of_lt h7] at h6
          omega
        · omega
    have hlen : (numBytes x).length = numLen x + 1 := by rw [h1, List.length_cons, digL_len]
    rw [lastV, hr, hlen, sizeN, if_neg h]
    simp
end Resp
end Go.Proofs.YtdfmgneicdpjmaaGreat

/- Lists of lists of bytes; bytes.Equal, slices.EqualFunc, Begins and the reference's Begins; slices.Equal over ints. -/
namespace Go.Proofs.YtdfmgneicdpjmaaGreat
open Go.RowKit Go.Shelf
set_option linter.unusedVariables false
set_option linter.unusedSimpArgs false
set_option maxRecDepth 100000
namespace Resp

theorem take_eq_step_ {xs ys : List Int} {k : Nat} (h : xs.take k = ys.take k) (hx : k < xs.length) (hy : k < ys.length) (he : xs[k] = ys[k]) : xs.take (k + 1) = ys.take (k + 1) := by
  rw [List.take_succ_eq_append_getElem hx, List.take_succ_eq_append_getElem hy, h]
  rw [he]

theorem EqualI_any (v1 v2 : Value) (xs ys : List Int) (w : World) (h1 : Reads .i64 w v1 xs) (h2 : Reads .i64 w v2 ys) :
    Calls Tryz.prog 41 #[v1, v2] w fun e w' => e = .returned (.bool (decide (xs = ys))) ∧ ∃ n, w' = w.drewN n := by
  by_cases hl : xs.length = ys.length
  · by_cases h0 : xs.length = 0
    · have hx : xs = [] := List.length_eq_zero_iff.1 h0
      have hy : ys = [] := List.length_eq_zero_iff.1 (by omega)
      subst hx hy
      have hv : ∀ {v : Value}, Reads .i64 w v [] → ∃ a c, v = .slice a 0 c := by
        rintro v (⟨a, c, h, -⟩ | ⟨b, o, c, h, -⟩)
        · exact ⟨_, _, h⟩
        · exact ⟨_, _, h⟩
      obtain ⟨a1, c1, rfl⟩ := hv h1
      obtain ⟨a2, c2, rfl⟩ := hv h2
      clear hv h1 h2 hl h0
      go_enter Tryz.func41, Tryz.ntmps41
      go_wp2
      go_loop [13, 5] (fun i _ => i = .int .i64 0) (fun _ _ => 0)
      case atStart => rfl
      case round =>
        subst hrel
        go_wp2
        go_ret
        exact ⟨rfl, 0, rfl⟩
    · rcases h1 with ⟨a1, d1, rfl, rfl⟩ | ⟨b1, o1, c1, rfl, hl1, hc1⟩
      · simp at h0
      rcases h2 with ⟨a2, d2, rfl, rfl⟩ | ⟨b2, o2, c2, rfl, hl2, hc2⟩
      · simp at hl; exact absurd (by simp [hl]) h0
      have hne : ((xs.length : Int) != (ys.length : Int)) = false := by simp [hl]
      have hle : ys.length ≤ xs.length := by omega
      have HL := Lib.hid hl
      unfold maxLen at hl1 hl2
      clear hl
      go_enter Tryz.func41, Tryz.ntmps41
      go_wp2
      go_loopw [13, 5] (fun i _ wr => ∃ k : Nat, k ≤ xs.length ∧ i = .int .i64 k ∧ Hid (xs.take k = ys.take k) ∧ ∃ m, wr = w.drewN m) (fun i _ _ => xs.length - (intOf i).toNat)
      case atStart => exact ⟨0, Nat.zero_le _, rfl, rfl, 0, rfl⟩
      case round =>
        obtain ⟨k, hk, rfl, HT, m, rfl⟩ := hrel
        by_cases hlt : k < xs.length
        · have hlt2 : k < ys.length := by have := HL.out; omega
          have e1 := hc1 k hlt
          have e2 := hc2 k hlt2
          rw [List.getElem?_eq_getElem hlt, Option.getD_some] at e1
          rw [List.getElem?_eq_getElem hlt2, Option.getD_some] at e2
          by_cases heq : xs[k] = ys[k]
          · have hq : (xs[k] != ys[k]) = false := by simpa using heq
            have HE := Lib.hid (take_eq_step_ HT.out hlt hlt2 heq)
            clear heq hc1 hc2
            go_wp2
            go_quiet (fail)
            go_wp2
            exact ⟨⟨k + 1, by omega, by simp, HE.out, _, rfl⟩, by simp [intOf]; omega⟩
          · have hq : (xs[k] != ys[k]) = true := by simpa using heq
            have HE : Hid (decide (xs = ys) = false) := by
              rw [Hid, decide_eq_false_iff_not]; rintro rfl; exact heq rfl
            clear heq hc1 hc2
            go_wp2
            go_quiet (fail)
            go_wp2
            go_ret
            exact ⟨by rw [HE.out]; rfl, m + nq, by simp⟩
        · obtain rfl : k = xs.length := by omega
          have HE : Hid (decide (xs = ys) = true) := by
            rw [Hid, decide_eq_true_eq]
            have := HT.out
            rwa [List.take_of_length_le (Nat.le_refl _), List.take_of_length_le (by have := HL.out; omega)] at this
          go_wp2
          go_ret
          exact ⟨by rw [HE.out]; rfl, _, rfl⟩
  · have hv : ∀ {v : Value} {zs : List Int}, Reads .i64 w v zs → ∃ a c, v = .slice a zs.length c := by
      rintro v zs (⟨a, c, h, rfl⟩ | ⟨b, o, c, h, -⟩)
      · exact ⟨_, _, h⟩
      · exact ⟨_, _, h⟩
    obtain ⟨a1, c1, rfl⟩ := hv h1
    obtain ⟨a2, c2, rfl⟩ := hv h2
    have hne : ((xs.length : Int) != (ys.length : Int)) = true := by simp; omega
    have HE : Hid (decide (xs = ys) = false) := by
      rw [Hid, decide_eq_false_iff_not]; rintro rfl; exact hl rfl
    clear hv h1 h2 hl
    go_enter Tryz.func41, Tryz.ntmps41
    go_wp2
    go_ret
    exact ⟨by rw [HE.out]; rfl, 0, rfl⟩

/-- v holds bytes that make up the string s. -/
def StrAt (W : World) (v : Value) (s : ByteArray) : Prop := ∃ zs : List Int, Reads .u8 W v zs ∧ strOfNums zs = s
theorem StrAt.form {W : World} {v : Value} {s : ByteArray} (h : StrAt W v s) : ∃ a c, v = .slice a s.size c := by
  obtain ⟨zs, h, rfl⟩ := h
  obtain ⟨a, c, rfl⟩ := Reads.form_ h
  exact ⟨a, c, by rw [strOfNums_size]⟩
theorem StrAt.mod {S : Nat → Prop} {W W' : World} {v : Value} {s : ByteArray} (h : StrAt W v s) (hm : Mod S W W') (hS : ∀ g, ¬ S g) : StrAt W' v s := by
  obtain ⟨zs, h, e⟩ := h
  exact ⟨zs, h.mod hm (fun g _ => hS g), e⟩
theorem StrAt.drewN {W : World} {v : Value} {s : ByteArray} (n : Nat) (h : StrAt W v s) : StrAt (W.drewN n) v s := h
theorem StrAt.convert {W : World} {v : Value} {s : ByteArray} (h : StrAt W v s) : (convert 25 9 v).run Tryz.prog W = .ok (.string s) W := by
  obtain ⟨zs, h, rfl⟩ := h
  have hs : Tryz.prog.underlying 25 = some (.slice 5) := Tryz.underlying25
  have he : Tryz.prog.underlying 5 = some (.int .u8) := Tryz.underlying5
  have hd : Tryz.prog.underlying 9 = some .string := Tryz.underlying9
  rcases h with ⟨a, c, rfl, rfl⟩ | ⟨b, o, c, rfl, hl, hc⟩
  · rw [run_convert_bytes_string W _ _ _ a 0 c hs he hd]
    cases a with
    | none => simp [Conv.bytesToString]; rfl
    | some a => 
      have := run_bytesToString (P := Tryz.prog) W a 0 c [] (by simpa using run_loadCells_list (P := Tryz.prog) W a [] (fun j v hj => by simp at hj))
      rw [this]
      rfl
  · exact run_convert_bytes_arg W _ _ hs he b o _ c zs rfl (fun i hi => by rw [hc i hi]; simp [List.getD]) _ hd
theorem streq_ (s1 s2 : ByteArray) : (s1.toList == s2.toList) = decide (s1 = s2) := by
  by_cases h : s1 = s2
  · simp [h]
  · rw [decide_eq_false h, beq_eq_false_iff_ne]
    rw [ByteArray.toList_eq, ByteArray.toList_eq]
    intro e
    apply h
    cases s1
    cases s2
    simp only [ByteArray.mk.injEq]
    exact Array.toList_inj.1 e
theorem EqualB_any (v1 v2 : Value) (s1 s2 : ByteArray) (W : World) (h1 : StrAt W v1 s1) (h2 : StrAt W v2 s2) :
    Calls Tryz.prog 33 #[v1, v2] W fun e w' => e = .returned (.bool (decide (s1 = s2))) ∧ w' = W := by
  have e1 := h1.convert
  have e2 := h2.convert
  obtain ⟨a1, c1, rfl⟩ := h1.form
  obtain ⟨a2, c2, rfl⟩ := h2.form
  clear h1 h2
  go_enter Tryz.func33, Tryz.ntmps33
  go_wp2_with fail
  go_ret
  exact ⟨by rw [← streq_]; rfl, rfl⟩
/-- The slice (a, n) holds the strings ss. -/
def RowsAt (W : World) (a : Option Addr) (n : Nat) (ss : List ByteArray) : Prop := ss.length = n ∧ ∀ i u, ss[i]? = some u → ∃ b o v, a = some ⟨b, o, none⟩ ∧ W.cell? ⟨b, o + i, none⟩ = some v ∧ StrAt W v u
theorem RowsAt.mod {S : Nat → Prop} {W W' : World} {a : Option Addr} {n : Nat} {ss : List ByteArray} (h : RowsAt W a n ss) (hm : Mod S W W') (hS : ∀ g, ¬ S g) : RowsAt W' a n ss :=
  ⟨h.1, fun i u hu => by
    obtain ⟨b, o, v, e, hc, hs⟩ := h.2 i u hu
    exact ⟨b, o, v, e, hm.cell (hS _) hc, hs.mod hm hS⟩⟩
theorem RowsAt.take {W : World} {a : Option Addr} {n : Nat} {ss : List ByteArray} (h : RowsAt W a n ss) {k : Nat} (hk : k ≤ n) : RowsAt W a k (ss.take k) :=
  ⟨by rw [List.length_take, h.1]; omega, fun i u hu => h.2 i u (by
    rw [List.getElem?_take] at hu
    split at hu
    · exact hu
    · cases hu)⟩
theorem take_eq_stepS_ {xs ys : List ByteArray} {k : Nat} (h : xs.take k = ys.take k) (hx : k < xs.length) (hy : k < ys.length) (he : xs[k] = ys[k]) : xs.take (k + 1) = ys.take (k + 1) := by
  rw [List.take_succ_eq_append_getElem hx, List.take_succ_eq_append_getElem hy, h, he]
set_option maxHeartbeats 1000000 in
theorem EqualFunc_any (a1 a2 : Option Addr) (n m c1 c2 : Nat) (xs ys : List ByteArray) (W : World) (h1 : RowsAt W a1 n xs) (h2 : RowsAt W a2 m ys) (hn : n ≤ 1000000) :
    Calls Tryz.prog 31 #[.slice a1 n c1, .slice a2 m c2, .func (.func 33) #[] #[]] W fun e w' => e = .returned (.bool (decide (xs = ys))) ∧ Below W.heap.size W w' := by
  obtain ⟨hx, h1⟩ := h1
  obtain ⟨hy, h2⟩ := h2
  by_cases hnm : n = m
  · have hne : ((n : Int) != (m : Int)) = false := by simp [hnm]
    have HX := Lib.hid hx
    have HY := Lib.hid hy
    have HNM := Lib.hid hnm
    have H1 := Lib.hid h1
    have H2 := Lib.hid h2
    clear hx hy h1 h2 hnm
    have hnI : (n : Int) ≤ 1000000 := by omega
    go_enter Tryz.func31, Tryz.ntmps31
    go_wp2_with fail
    go_loopw [17, 9, 8, 7] (fun i _ _ _ wr => ∃ k : Nat, k ≤ n ∧ i = .int .i64 k ∧ Hid (xs.take k = ys.take k) ∧ Below W.heap.size W wr) (fun i _ _ _ _ => n - (intOf i).toNat)
    case atStart => exact ⟨0, Nat.zero_le _, rfl, rfl, Below.refl _ _⟩
    case round =>
      obtain ⟨k, hk, rfl, HT, hb⟩ := hrel
      by_cases hlt : k < n
      · have hltI : (k : Int) < n := by omega
        have hlt2 : k < m := by rw [← HNM.out]; exact hlt
        have hx1 : k < xs.length := by rw [HX.out]; exact hlt
        have hy1 : k < ys.length := by rw [HY.out]; exact hlt2
        have hltJ : (k : Int) < m := by omega
        have hm : Mod (fun _ => False) W wr := Mod.of_same hb
        obtain ⟨b1, o1, v1, e1, q1, s1⟩ := H1.out k _ (List.getElem?_eq_getElem hx1)
        obtain ⟨b2, o2, v2, e2, q2, s2⟩ := H2.out k _ (List.getElem?_eq_getElem hy1)
        subst e1 e2
        replace q1 := hm.cell (by simp) q1
        replace q2 := hm.cell (by simp) q2
        replace s1 := s1.mod hm (by simp)
        replace s2 := s2.mod hm (by simp)
        have HB := Lib.hid hb
        have HXY : Hid (∀ h : xs[k] = ys[k], xs.take (k + 1) = ys.take (k + 1)) := fun h => take_eq_stepS_ HT.out hx1 hy1 h
        have HNE : Hid (∀ h : ¬ xs[k] = ys[k], decide (xs = ys) = false) := by
          intro h
          rw [decide_eq_false_iff_not]
          rintro rfl
          exact h rfl
        have HC := Lib.hid (EqualB_any v1 v2 _ _ wr s1 s2)
        clear hm hb s1 s2
        generalize xs[k] = x at *
        generalize ys[k] = y at *
        by_cases hxy : x = y
        · have hd : decide (x = y) = true := decide_eq_true hxy
          replace HXY := Lib.hid (HXY.out hxy)
          rw [hd] at HC
          clear hd hxy HNE
          go_wp2_with fail
          refine HC.out.mono ?_; rintro e w2 ⟨rfl, e2⟩
          subst e2
          go_wp2_with fail
          exact ⟨⟨k + 1, by omega, by simp, HXY.out, HB.out⟩, by simp [intOf]; omega⟩
        · have hd : decide (x = y) = false := decide_eq_false hxy
          replace HNE := Lib.hid (HNE.out hxy)
          rw [hd] at HC
          clear hd hxy HXY
          go_wp2_with fail
          refine HC.out.mono ?_; rintro e w2 ⟨rfl, e2⟩
          subst e2
          go_wp2_with fail
          go_ret
          exact ⟨by rw [HNE.out]; rfl, HB.out⟩
      · obtain rfl : k = n := by omega
        have HE : Hid (decide (xs = ys) = true) := by
          rw [Hid, decide_eq_true_eq]
          have := HT.out
          rwa [List.take_of_length_le (by rw [HX.out]; exact Nat.le_refl _), List.take_of_length_le (by rw [HY.out, HNM.out]; exact Nat.le_refl _)] at this
        go_wp2_with fail
        go_ret
        exact ⟨by rw [HE.out]; rfl, hb⟩
  · have hne : ((n : Int) != (m : Int)) = true := by simp; omega
    have HE : Hid (decide (xs = ys) = false) := by
      rw [Hid, decide_eq_false_iff_not]; rintro rfl; exact hnm (hx.symm.trans hy)
    clear h1 h2
    go_enter Tryz.func31, Tryz.ntmps31
    go_wp2_with fail
    go_ret
    exact ⟨by rw [HE.out]; rfl, Below.refl _ _⟩
/-- Whether the strings a begin the strings b. -/
def begB (a b : List ByteArray) : Bool := decide (a = b.take a.length)
set_option maxHeartbeats 1000000 in
theorem Begins_any (a1 a2 : Option Addr) (n m c1 c2 : Nat) (xs ys : List ByteArray) (W : World) (h1 : RowsAt W a1 n xs) (h2 : RowsAt W a2 m ys) (hn : n ≤ 1000000) (hm : m ≤ 1000000) (hmc : m ≤ c2) (hcm : c2 ≤ maxLen) :
    Calls Tryz.prog 13 #[.slice a1 n c1, .slice a2 m c2] W fun e w' => e = .returned (.bool (begB xs ys)) ∧ Below W.heap.size W w' := by
  unfold maxLen at hcm
  have hnI : (n : Int) ≤ 1000000 := by omega
  have hmI : (m : Int) ≤ 1000000 := by omega
  have hcI : (m : Int) ≤ c2 := by omega
  by_cases hnm : n ≤ m
  · have hle : (n : Int) ≤ m := by omega
    have hnc : n ≤ c2 := by omega
    have HC := Lib.hid (EqualFunc_any a1 a2 n n c1 c2 xs (ys.take n) W h1 (h2.take hnm) hn)
    have HE : Hid (begB xs ys = decide (xs = ys.take n)) := by rw [Hid, begB, h1.1]
    rw [← HE.out] at HC
    clear HE h1 h2
    generalize begB xs ys = r at *
    go_enter Tryz.func13, Tryz.ntmps13
    go_wp2_with fail
    refine HC.out.mono ?_; rintro e w2 ⟨rfl, hb⟩
    go_wp2_with fail
    go_ret
    exact ⟨rfl, hb⟩
  · have hle : ¬ (n : Int) ≤ m := by omega
    have HE : Hid (begB xs ys = false) := by
      rw [Hid, begB, decide_eq_false_iff_not]
      intro e
      have := congrArg List.length e
      rw [List.length_take, h1.1, h2.1] at this
      omega
    clear h1 h2
    go_enter Tryz.func13, Tryz.ntmps13
    go_wp2_with fail
    go_ret
    exact ⟨by rw [HE.out]; rfl, Below.refl _ _⟩
theorem below_drewB_ {B : Nat} {a w : World} (h : Below B a w) : ∀ k, Below B a (w.drewN k)
  | 0 => h
  | k + 1 => ⟨(below_drewB_ h k).os, (below_drewB_ h k).tape, (below_drewB_ h k).output, (below_drewB_ h k).size, (below_drewB_ h k).block⟩
set_option maxHeartbeats 1000000 in
theorem BeginsR_any (a1 a2 : Option Addr) (n m c1 c2 : Nat) (xs ys : List ByteArray) (W : World) (h1 : RowsAt W a1 n xs) (h2 : RowsAt W a2 m ys) (hn : n ≤ 1000000) (hm : m ≤ 1000000) :
    Calls Tryz.prog 14 #[.slice a1 n c1, .slice a2 m c2] W fun e w' => e = .returned (.bool (begB xs ys)) ∧ Below W.heap.size W w' := by
  have hnI : (n : Int) ≤ 1000000 := by omega
  have hmI : (m : Int) ≤ 1000000 := by omega
  obtain ⟨hx, h1⟩ := h1
  obtain ⟨hy, h2⟩ := h2
  by_cases hnm : n ≤ m
  · have hle : (n : Int) ≤ m := by omega
    have hgt : ¬ (n : Int) > m := by omega
    have HX := Lib.hid hx
    have HY := Lib.hid hy
    have H1 := Lib.hid h1
    have H2 := Lib.hid h2
    clear hx hy h1 h2
    go_enter Tryz.func14, Tryz.ntmps14
    go_wp2_with fail
    go_loopw [5] (fun i wr => ∃ k : Nat, k ≤ n ∧ i = .int .i64 k ∧ Hid (xs.take k = ys.take k) ∧ Below W.heap.size W wr) (fun i _ => n - (intOf i).toNat)
    case atStart => exact ⟨0, Nat.zero_le _, rfl, rfl, Below.refl _ _⟩
    case round =>
      obtain ⟨k, hk, rfl, HT, hb⟩ := hrel
      by_cases hlt : k < n
      · have hltI : (k : Int) < n := by omega
        have hlt2 : k < m := by omega
        have hx1 : k < xs.length := by rw [HX.out]; exact hlt
        have hy1 : k < ys.length := by rw [HY.out]; exact hlt2
        have hltJ : (k : Int) < m := by omega
        have hm : Mod (fun _ => False) W wr := Mod.of_same hb
        obtain ⟨b1, o1, v1, e1, q1, s1⟩ := H1.out k _ (List.getElem?_eq_getElem hx1)
        obtain ⟨b2, o2, v2, e2, q2, s2⟩ := H2.out k _ (List.getElem?_eq_getElem hy1)
        subst e1 e2
        replace q1 := hm.cell (by simp) q1
        replace q2 := hm.cell (by simp) q2
        replace s1 := s1.mod hm (by simp)
        replace s2 := s2.mod hm (by simp)
        have HB := Lib.hid hb
        have HXY : Hid (∀ h : xs[k] = ys[k], xs.take (k + 1) = ys.take (k + 1)) := fun h => take_eq_stepS_ HT.out hx1 hy1 h
        have HNE : Hid (∀ h : ¬ xs[k] = ys[k], begB xs ys = false) := by
          intro h
          rw [begB, decide_eq_false_iff_not]
          intro e
          apply h
          have h3 : xs[k]? = (ys.take xs.length)[k]? := congrArg (·[k]?) e
          rw [List.getElem?_take, if_pos hx1, List.getElem?_eq_getElem hx1, List.getElem?_eq_getElem hy1] at h3
          injection h3
        have s3 := fun j => (s1.drewN j).convert
        have s4 := fun j => (s2.drewN j).convert
        clear hm hb s1 s2
        generalize xs[k] = x at *
        generalize ys[k] = y at *
        have hd := streq_ x y
        by_cases hxy : x = y
        · rw [decide_eq_true hxy] at hd
          replace HXY := Lib.hid (HXY.out hxy)
          have hd' : (x.toList != y.toList) = false := by simp [bne, hd]
          clear hxy HNE
          go_wp2_with fail
          go_quiet (fail)
          go_wp2_with fail
          exact ⟨⟨k + 1, by omega, by simp, HXY.out, below_drewB_ HB.out nq⟩, by simp [intOf]; omega⟩
        · rw [decide_eq_false hxy] at hd
          have hd' : (x.toList != y.toList) = true := by simp [bne, hd]
          replace HNE := Lib.hid (HNE.out hxy)
          clear hxy HXY
          go_wp2_with fail
          go_quiet (fail)
          go_wp2_with fail
          go_ret
          exact ⟨by rw [HNE.out]; rfl, below_drewB_ HB.out nq⟩
      · obtain rfl : k = n := by omega
        have HE : Hid (begB xs ys = true) := by
          rw [Hid, begB, decide_eq_true_eq]
          have := HT.out
          rw [List.take_of_length_le (by rw [HX.out]; exact Nat.le_refl _)] at this
          rw [HX.out]
          exact this
        go_wp2_with fail
        go_ret
        exact ⟨by rw [HE.out]; rfl, hb⟩
  · have hle : (m : Int) < n := by omega
    have HE : Hid (begB xs ys = false) := by
      rw [Hid, begB, decide_eq_false_iff_not]
      intro e
      have := congrArg List.length e
      rw [List.length_take, hx, hy] at this
      omega
    clear h1 h2
    go_enter Tryz.func14, Tryz.ntmps14
    go_wp2_with fail
    go_ret
    exact ⟨by rw [HE.out]; rfl, Below.refl _ _⟩
end Resp
end Go.Proofs.YtdfmgneicdpjmaaGreat
