/- Plain laws on turns: sums, neighbours, what is needed. -/
import Derived.Test.YtpgdlpocgfgnfaaTurnG
namespace Go.Proofs.Ytpgdlpocgfgnfaa
open Go.RowKit Go.Shelf
set_option linter.unusedVariables false
set_option linter.unusedSimpArgs false
namespace Turn

theorem turnsS_yes {n a b s : Int} (h1 : 1 ≤ n) (h8 : n ≤ 8) (h0 : 0 ≤ s) (hs : s < n) (ha : 0 ≤ a) (hab : a ≤ b) (hb : b ≤ 1099511627776) : turnsS n a b s = (cnt n b s - cnt n a s, 0) := by
  rw [turnsS, if_pos ⟨slotB_yes ⟨h1, h8, h0, hs⟩, boundsB_yes ⟨ha, hab, hb⟩⟩]
theorem cnt_near {n a b s j : Int} (h1 : 1 ≤ n) (h8 : n ≤ 8) (h0 : 0 ≤ s) (hs : s < n) (hj0 : 0 ≤ j) (hj : j < n) (ha : 0 ≤ a) (hab : a ≤ b) :
    (cnt n b j - cnt n a j) - (cnt n b s - cnt n a s) ≤ 1 ∧ (cnt n b s - cnt n a s) - (cnt n b j - cnt n a j) ≤ 1 := by
  unfold cnt
  rcases eight h1 h8 with rfl | rfl | rfl | rfl | rfl | rfl | rfl | rfl <;> omega
theorem allS_get {n a b : Int} (h1 : 1 ≤ n) (h8 : n ≤ 8) (ha : 0 ≤ a) (hab : a ≤ b) (hb : b ≤ 1099511627776) (j : Nat) (hj : (j : Int) < n) : (allS n a b)[j]? = some (cnt n b j - cnt n a j) := by
  rw [allS, if_pos ⟨slotsB_yes ⟨h1, h8⟩, boundsB_yes ⟨ha, hab, hb⟩⟩, upto_getElem? _ _ _ (by omega), turnsS_yes h1 h8 (by omega) hj ha hab hb]
theorem take_sum {l : List Int} {k : Nat} {z : Int} (h : l[k]? = some z) : (l.take (k + 1)).sum = (l.take k).sum + z := by
  rw [List.take_add_one, h]; simp
def csum (n t : Int) : Nat → Int
  | 0 => 0
  | k + 1 => csum n t k + cnt n t k
theorem csum_succ {n t : Int} (h1 : 1 ≤ n) (h8 : n ≤ 8) (ht : 0 ≤ t) : ∀ k : Nat, (k : Int) ≤ n → csum n (t + 1) k = csum n t k + if t % n < k then 1 else 0
  | 0, _ => by have := Int.emod_nonneg t (show n ≠ 0 by omega); simp [csum]; omega
  | k + 1, hk => by
    rw [csum, csum, csum_succ h1 h8 ht k (by omega), cnt_succ h1 h8 (by omega) (by omega)]
    by_cases h : t % n = (k : Int)
    · rw [if_pos h, if_neg (by omega), if_pos (by omega)]; omega
    · rw [if_neg h]
      by_cases h' : t % n < (k : Int)
      · rw [if_pos h', if_pos (by omega)]; omega
      · rw [if_neg h', if_neg (by omega)]; omega
theorem csum_zero {n : Int} (h1 : 1 ≤ n) (h8 : n ≤ 8) : ∀ k : Nat, (k : Int) ≤ n → csum n 0 k = 0
  | 0, _ => rfl
  | k + 1, hk => by
    rw [csum, csum_zero h1 h8 k (by omega)]
    unfold cnt
    rcases eight h1 h8 with rfl | rfl | rfl | rfl | rfl | rfl | rfl | rfl <;> omega
theorem csum_all {n : Int} (h1 : 1 ≤ n) (h8 : n ≤ 8) : ∀ t : Nat, csum n t n.toNat = t
  | 0 => csum_zero h1 h8 _ (by omega)
  | t + 1 => by
    have hm := Int.emod_lt_of_pos (t : Int) (show 0 < n by omega)
    rw [show ((t + 1 : Nat) : Int) = (t : Int) + 1 by omega, csum_succ h1 h8 (by omega) _ (by omega), csum_all h1 h8 t, if_pos (by omega)]
theorem allS_take {n a b : Int} (h1 : 1 ≤ n) (h8 : n ≤ 8) (ha : 0 ≤ a) (hab : a ≤ b) (hb : b ≤ 1099511627776) : ∀ k : Nat, (k : Int) ≤ n → ((allS n a b).take k).sum = csum n b k - csum n a k
  | 0, _ => by simp [csum]
  | k + 1, hk => by
    rw [take_sum (allS_get h1 h8 ha hab hb k (by omega)), allS_take h1 h8 ha hab hb k (by omega), csum, csum]; omega
theorem allS_sum {n a b : Int} (h1 : 1 ≤ n) (h8 : n ≤ 8) (ha : 0 ≤ a) (hab : a ≤ b) (hb : b ≤ 1099511627776) : ((allS n a b).take n.toNat).sum = b - a := by
  have e1 := csum_all h1 h8 b.toNat
  have e2 := csum_all h1 h8 a.toNat
  rw [Int.toNat_of_nonneg (by omega)] at e1 e2
  rw [allS_take h1 h8 ha hab hb _ (by omega), e1, e2]
theorem sum_bd {n a b : Int} (h1 : 1 ≤ n) (h8 : n ≤ 8) (ha : 0 ≤ a) (hab : a ≤ b) (hb : b ≤ 1099511627776) (k : Nat) (hk : (k : Int) ≤ n) : 0 ≤ ((allS n a b).take k).sum ∧ ((allS n a b).take k).sum ≤ k * 1099511627776 := by
  induction k with
  | zero => simp
  | succ k ih =>
    obtain ⟨i1, i2⟩ := ih (by omega)
    rw [take_sum (allS_get h1 h8 ha hab hb k (by omega))]
    have h3 : 0 ≤ cnt n b k - cnt n a k ∧ cnt n b k - cnt n a k ≤ b - a := by
      unfold cnt
      rcases eight h1 h8 with rfl | rfl | rfl | rfl | rfl | rfl | rfl | rfl <;> omega
    omega


/-- What Need comes to where it comes to something. -/
theorem needS_yes {n a s k : Int} (h1 : 1 ≤ n) (h8 : n ≤ 8) (h0 : 0 ≤ s) (hs : s < n) (ha : 0 ≤ a) (ha2 : a ≤ 1099511627776) (hk : 1 ≤ k) (hm : firstT n a s + (k - 1) * n + 1 ≤ 1099511627776) : needS n a s k = (firstT n a s + (k - 1) * n + 1 - a, 0) := by
  rw [needS, if_pos ⟨slotB_yes ⟨h1, h8, h0, hs⟩, boundsB_yes ⟨ha, by omega, ha2⟩, by omega⟩, if_neg (by omega), if_pos hm]
theorem needS_none {n a s : Int} (h1 : 1 ≤ n) (h8 : n ≤ 8) (h0 : 0 ≤ s) (hs : s < n) (ha : 0 ≤ a) (ha2 : a ≤ 1099511627776) : needS n a s 0 = (0, 0) := by
  rw [needS, if_pos ⟨slotB_yes ⟨h1, h8, h0, hs⟩, boundsB_yes ⟨ha, by omega, ha2⟩, by omega⟩, if_pos rfl]
theorem nextS_yes {n a s : Int} (h1 : 1 ≤ n) (h8 : n ≤ 8) (h0 : 0 ≤ s) (hs : s < n) (ha : 0 ≤ a) (ha2 : a ≤ 1099511627776) (hf : firstT n a s < 1099511627776) : nextS n a s = (firstT n a s, 0) := by
  rw [nextS, if_pos ⟨slotB_yes ⟨h1, h8, h0, hs⟩, boundsB_yes ⟨ha, by omega, ha2⟩⟩, if_pos hf]
theorem slotS_yes {n t : Int} (h1 : 1 ≤ n) (h8 : n ≤ 8) (h0 : 0 ≤ t) (ht : t < 1099511627776) : slotS n t = (t % n, 0) := by
  rw [slotS, if_pos ⟨h1, h8, h0, ht⟩]
theorem enoughS_yes {n k : Int} (h1 : 1 ≤ n) (h8 : n ≤ 8) (h0 : 0 ≤ k) (ht : n * k ≤ 1099511627776) : enoughS n k = (n * k, 0) := by
  rw [enoughS, if_pos ⟨h1, h8, h0⟩, if_pos ht]
theorem need_cnt {n a s k : Int} (h1 : 1 ≤ n) (h8 : n ≤ 8) (h0 : 0 ≤ s) (hs : s < n) (ha : 0 ≤ a) (hk : 1 ≤ k) :
    cnt n (firstT n a s + (k - 1) * n + 1) s - cnt n a s = k ∧ cnt n (firstT n a s + (k - 1) * n) s - cnt n a s = k - 1 ∧ cnt n (firstT n a s) s - cnt n a s = 0 ∧ (firstT n a s + (k - 1) * n) % n = s ∧ k - 1 ≤ (k - 1) * n ∧ (k - 1) * n ≤ 8 * (k - 1) := by
  unfold cnt firstT
  rcases eight h1 h8 with rfl | rfl | rfl | rfl | rfl | rfl | rfl | rfl <;> omega
theorem each_cnt {n a s k : Int} (h1 : 1 ≤ n) (h8 : n ≤ 8) (h0 : 0 ≤ s) (hs : s < n) (ha : 0 ≤ a) (hk : 0 ≤ k) :
    cnt n (a + n * k) s - cnt n a s = k := by
  unfold cnt
  rcases eight h1 h8 with rfl | rfl | rfl | rfl | rfl | rfl | rfl | rfl <;> omega
theorem each_less {n a s k : Int} (h1 : 1 ≤ n) (h8 : n ≤ 8) (h0 : 0 ≤ s) (hs : s < n) (ha : 0 ≤ a) (hk : 1 ≤ k) :
    cnt n (a + n * k - 1) s - cnt n a s = if s = (a + n * k - 1) % n then k - 1 else k := by
  unfold cnt
  rcases eight h1 h8 with rfl | rfl | rfl | rfl | rfl | rfl | rfl | rfl <;> (split <;> omega)
theorem each_need {n a s k : Int} (h1 : 1 ≤ n) (h8 : n ≤ 8) (h0 : 0 ≤ s) (hs : s < n) (ha : 0 ≤ a) (hk : 1 ≤ k) :
    firstT n a s + (k - 1) * n + 1 - a ≤ n * k ∧ 1 ≤ firstT n a s + (k - 1) * n + 1 - a := by
  unfold firstT
  rcases eight h1 h8 with rfl | rfl | rfl | rfl | rfl | rfl | rfl | rfl <;> omega
theorem each_most {n a k : Int} (h1 : 1 ≤ n) (h8 : n ≤ 8) (ha : 0 ≤ a) (hk : 1 ≤ k) :
    0 ≤ (a + n * k - 1) % n ∧ (a + n * k - 1) % n < n ∧ firstT n a ((a + n * k - 1) % n) + (k - 1) * n + 1 - a = n * k := by
  unfold firstT
  rcases eight h1 h8 with rfl | rfl | rfl | rfl | rfl | rfl | rfl | rfl <;> omega
theorem mul_bds {n k : Int} (h1 : 1 ≤ n) (h8 : n ≤ 8) (hk : 0 ≤ k) : k ≤ n * k ∧ n * k ≤ 8 * k := by
  rcases eight h1 h8 with rfl | rfl | rfl | rfl | rfl | rfl | rfl | rfl <;> omega
end Turn
end Go.Proofs.Ytpgdlpocgfgnfaa
