import Derived.Test.YtdfmgneicdpjmaaGreatM11
import Derived.WalkSmall
import Derived.BigRegion
import Derived.Lib.EndianBits
import Derived.Test.YtdfmgneicdpjmaaGreatM01
import Derived.Handy
/- request.asked, Tags, numbers; num.Fold, Unfold. -/
namespace Go.Proofs.YtdfmgneicdpjmaaGreat
open Go.RowKit Go.Shelf
attribute [local go_sem] Oper.semAt_some
set_option linter.unusedVariables false
set_option linter.unusedSimpArgs false
set_option maxRecDepth 100000
namespace Eng
open Resp App

theorem infoInt : (Tryz.prog.info? 3).map (fun i => (i.zero, i.size, i.bytes)) = some (some (.int .i64 0), 1, 8) := by kernel_rfl
def i64s (l : List Int) : List Value := l.map (Value.int .i64)
def askL (wh : Int) : Option (List Int) := if wh = 1 then some [] else if wh = 2 ∨ wh = 5 then some [4] else if wh = 3 then some [7, 8, 9] else if wh = 4 then some [2] else none
def tgL (k wh : Int) : Option (List Int) := if k = 1 then some [11] else if k = 2 then some [2, 3] else if k = 3 then some [4, 5, 6] else if k = 4 then some [4] else if k = 5 then some [4, 7, 10] else if k = 6 then some [7] else if k = 7 then (askL wh).map (1 :: ·) else if k = 8 then some [8, 9] else if k = 9 then some [] else none
/-- A row of ints of its own, and whether it is there. -/
def TgP (w : World) (l : Option (List Int)) (e : Ending) (w' : World) : Prop := ∃ v, e = .returned (.tuple #[v, .bool l.isSome]) ∧ w'.ownsRow w.heap.size 3 1 v (l.getD []).length (i64s (l.getD [])) ∧ Below w.heap.size w w'
theorem TgP.no {w w' : World} (hb : Below w.heap.size w w') : TgP w none (.returned (.tuple #[.slice none 0 0, .bool false])) w' := ⟨_, rfl, owns_nil _ _ _ _, hb⟩
theorem TgP.nul {w w' : World} (hb : Below w.heap.size w w') : TgP w (some []) (.returned (.tuple #[.slice none 0 0, .bool true])) w' := ⟨_, rfl, owns_nil _ _ _ _, hb⟩
theorem TgP.new {w : World} (l : List Int) (h : l.length ≤ 1000) : TgP w (some l) (.returned (.tuple #[.slice (some ⟨w.heap.size, 0, none⟩) l.length l.length, .bool true])) (w.alloc (.cells (i64s l).toArray 3)) := by
  refine ⟨_, rfl, ⟨by simp [i64s], .inr ⟨w.heap.size, l.length, (i64s l).toArray, rfl, Nat.le_refl _, World.alloc_heap_new w _, Nat.le_refl _, by unfold maxLen; omega, by simp [i64s], by simp only [Array.toList]; rw [List.take_of_length_le (by simp [i64s])]; rfl⟩⟩, (Below.refl _ _).alloc (Nat.le_refl _) _⟩
theorem i64s_one (l : List Int) : ∀ u ∈ i64s l, u.oneCell' = true := by
  intro u hu
  obtain ⟨j, _, rfl⟩ := List.mem_map.1 hu
  rfl
theorem src_own {w : World} {base : Nat} {e : TypeId} {size n : Nat} {v : Value} {xs : List Value} (h : w.ownsRow base e size v n xs) : SrcAt w v n size xs := by
  rcases h.2 with ⟨rfl, rfl⟩ | ⟨g, cap, cur, rfl, hb, hg, h2, h3, h4, h5⟩
  · exact .inl ⟨0, rfl, rfl, List.length_eq_zero_iff.1 (by simpa using h.1)⟩
  · exact .inr ⟨⟨g, 0, none⟩, cap, rfl, h.1, fun j z hj => h.cells (g := g) rfl j z hj⟩
theorem asked_any (wh : Int) (w : World) : Calls Tryz.prog 195 #[.int .u8 wh] w (TgP w (askL wh)) := by
  have hk : wh = 1 ∨ wh = 2 ∨ wh = 3 ∨ wh = 4 ∨ wh = 5 ∨ (¬ wh = 1 ∧ ¬ wh = 2 ∧ ¬ wh = 3 ∧ ¬ wh = 4 ∧ ¬ wh = 5) := by omega
  rcases hk with rfl | rfl | rfl | rfl | rfl | ⟨h1, h2, h3, h4, h5⟩
  · go_enter Tryz.func195, Tryz.ntmps195
    go_wp2_with fail
    go_ret2
    exact TgP.nul (Below.refl _ _)
  · go_enter Tryz.func195, Tryz.ntmps195
    go_wp2_with fail
    go_ret2
    exact TgP.new [4] (by decide)
  · go_enter Tryz.func195, Tryz.ntmps195
    go_wp2_with fail
    go_ret2
    exact TgP.new [7, 8, 9] (by decide)
  · go_enter Tryz.func195, Tryz.ntmps195
    go_wp2_with fail
    go_ret2
    exact TgP.new [2] (by decide)
  · go_enter Tryz.func195, Tryz.ntmps195
    go_wp2_with fail
    go_ret2
    exact TgP.new [4] (by decide)
  · have b1 : (wh == 1) = false := by simpa using h1
    have b2 : (wh == 2) = false := by simpa using h2
    have b3 : (wh == 3) = false := by simpa using h3
    have b4 : (wh == 4) = false := by simpa using h4
    have b5 : (wh == 5) = false := by simpa using h5
    have HN : Hid (askL wh = none) := by rw [Hid, askL, if_neg h1, if_neg (by omega), if_neg h3, if_neg h4]
    rw [HN.out]
    clear h1 h2 h3 h4 h5
    go_enter Tryz.func195, Tryz.ntmps195
    go_wp2_with fail
    go_ret2
    exact TgP.no (Below.refl _ _)
set_option maxHeartbeats 1000000 in
theorem Tags_any (k wh : Int) (w : World) : Calls Tryz.prog 151 #[.int .u8 k, .int .u8 wh] w (TgP w (tgL k wh)) := by
  obtain ⟨i0, hi, hz0, hz1, hz2⟩ := info_parts infoInt
  have hk : k = 1 ∨ k = 2 ∨ k = 3 ∨ k = 4 ∨ k = 5 ∨ k = 6 ∨ k = 8 ∨ k = 9 ∨ k = 7 ∨ (¬ k = 1 ∧ ¬ k = 2 ∧ ¬ k = 3 ∧ ¬ k = 4 ∧ ¬ k = 5 ∧ ¬ k = 6 ∧ ¬ k = 7 ∧ ¬ k = 8 ∧ ¬ k = 9) := by omega
  rcases hk with rfl | rfl | rfl | rfl | rfl | rfl | rfl | rfl | rfl | ⟨h1, h2, h3, h4, h5, h6, h7, h8, h9⟩
  · go_enter Tryz.func151, Tryz.ntmps151
    go_wp2_with fail
    go_ret2
    exact TgP.new [11] (by decide)
  · go_enter Tryz.func151, Tryz.ntmps151
    go_wp2_with fail
    go_ret2
    exact TgP.new [2, 3] (by decide)
  · go_enter Tryz.func151, Tryz.ntmps151
    go_wp2_with fail
    go_ret2
    exact TgP.new [4, 5, 6] (by decide)
  · go_enter Tryz.func151, Tryz.ntmps151
    go_wp2_with fail
    go_ret2
    exact TgP.new [4] (by decide)
  · go_enter Tryz.func151, Tryz.ntmps151
    go_wp2_with fail
    go_ret2
    exact TgP.new [4, 7, 10] (by decide)
  · go_enter Tryz.func151, Tryz.ntmps151
    go_wp2_with fail
    go_ret2
    exact TgP.new [7] (by decide)
  · go_enter Tryz.func151, Tryz.ntmps151
    go_wp2_with fail
    go_ret2
    exact TgP.new [8, 9] (by decide)
  · go_enter Tryz.func151, Tryz.ntmps151
    go_wp2_with fail
    go_ret2
    exact TgP.nul (Below.refl _ _)
  · have HT : Hid (tgL 7 wh = (askL wh).map (1 :: ·)) := by simp [Hid, tgL]
    have HA := Lib.hid (asked_any wh w)
    rw [HT.out]
    clear HT
    have HLN : Hid (((askL wh).getD []).length ≤ 3) := by
      unfold askL
      show List.length _ ≤ 3
      split
      · decide
      split
      · decide
      split
      · decide
      split
      · decide
      · decide
    generalize askL wh = al at *
    go_enter Tryz.func151, Tryz.ntmps151
    go_wp2_with fail
    refine HA.out.mono ?_; rintro e w1 ⟨v, rfl, ho, hb⟩
    cases al with
    | none =>
      obtain ⟨a, c, rfl⟩ := ownsRow_form ho
      have HB := Lib.hid hb
      clear ho hb HA
      simp only [Option.isSome_none, Option.getD_none, List.length_nil]
      go_wp2_with fail
      go_ret2
      exact TgP.no HB.out
    | some l =>
      obtain ⟨a, c, rfl⟩ := ownsRow_form ho
      have HB := Lib.hid hb
      have HO := Lib.hid ho
      have hl3 : l.length ≤ 3 := HLN.out
      clear ho hb HA
      simp only [Option.isSome_some, Option.getD_some]
      have HLIT : Hid ((w1.alloc (.cells #[.int .i64 1] 3)).ownsRow w.heap.size 3 1 (.slice (some ⟨w1.heap.size, 0, none⟩) 1 1) 1 [.int .i64 1]) :=
        ⟨rfl, .inr ⟨w1.heap.size, 1, #[.int .i64 1], rfl, HB.out.size, World.alloc_heap_new w1 _, Nat.le_refl _, by unfold maxLen; omega, rfl, rfl⟩⟩
      have HSRC : Hid (SrcAt (w1.alloc (.cells #[.int .i64 1] 3)) (.slice a l.length c) l.length 1 (i64s l)) := (src_own HO.out).below ((Below.refl _ _).alloc (Nat.le_refl _) _)
      go_wp2_with (at_builtin; go_loud (refine wpList_app _ rfl _ _ 30 rfl w.heap.size 3 i0 (.int .i64 0) 1 8 Tryz.underlying30 hi hz0 hz1 hz2 rfl (by decide) (.slice (some ⟨w1.heap.size, 0, none⟩) 1 1) 1 [.int .i64 1] rfl HLIT.out (.slice a l.length c) l.length (i64s l) rfl HSRC.out (i64s_one l) (by unfold maxLen; omega) (by omega) (by have := HB.out.size; simp; omega) _ rfl ?_); intro a2 c2 w2 hown' hgrow hat; have HOWN := Lib.hid hown'; have HG := Lib.hid hgrow; clear hown' hgrow hat)
      go_ret2
      refine ⟨_, rfl, ?_, ?_⟩
      · have := HOWN.out
        have e9 : 1 + l.length = l.length + 1 := by omega
        simpa [i64s, e9] using this
      · exact HB.out.trans ((((Mod.refl (fun q => some q = (Value.slice (some ⟨w1.heap.size, 0, none⟩) 1 1).ownBlock) w1).alloc _).trans (Mod.of_grownBy HG.out)).below HB.out.size (fun q hq e => by
          have := HB.out.size
          simp [Value.ownBlock] at e
          omega))
  · have b1 : (k == 1) = false := by simpa using h1
    have b2 : (k == 2) = false := by simpa using h2
    have b3 : (k == 3) = false := by simpa using h3
    have b4 : (k == 4) = false := by simpa using h4
    have b5 : (k == 5) = false := by simpa using h5
    have b6 : (k == 6) = false := by simpa using h6
    have b7 : (k == 7) = false := by simpa using h7
    have b8 : (k == 8) = false := by simpa using h8
    have b9 : (k == 9) = false := by simpa using h9
    have HN : Hid (tgL k wh = none) := by rw [Hid, tgL, if_neg h1, if_neg h2, if_neg h3, if_neg h4, if_neg h5, if_neg h6, if_neg h7, if_neg h8, if_neg h9]
    rw [HN.out]
    clear h1 h2 h3 h4 h5 h6 h7 h8 h9
    go_enter Tryz.func151, Tryz.ntmps151
    go_wp2_with fail
    go_ret2
    exact TgP.no (Below.refl _ _)
end Eng
end Go.Proofs.YtdfmgneicdpjmaaGreat

/- num.Fold, Unfold; request.numbers. -/
namespace Go.Proofs.YtdfmgneicdpjmaaGreat
open Go.RowKit Go.Shelf
attribute [local go_sem] Oper.semAt_some
set_option linter.unusedVariables false
set_option linter.unusedSimpArgs false
set_option maxRecDepth 100000
namespace Eng
open Resp App

theorem xor_zero_u64 (x : Int) (h0 : 0 ≤ x) (h1 : x < 18446744073709551616) : bits BinOp.xor IntKind.u64 x 0 = x := by
  show IntKind.u64.wrap (((BitVec.ofInt 64 x ^^^ BitVec.ofInt 64 0 : BitVec 64).toNat : Nat) : Int) = x
  have : BitVec.ofInt 64 x ^^^ BitVec.ofInt 64 0 = BitVec.ofInt 64 x := by simp
  rw [this, IntKind.wrap_u64, BitVec.toNat_ofInt]
  omega
theorem xor_ones_u64 (x : Int) (h0 : 0 ≤ x) (h1 : x < 18446744073709551616) : bits BinOp.xor IntKind.u64 x 18446744073709551615 = 18446744073709551615 - x := by
  show IntKind.u64.wrap (((BitVec.ofInt 64 x ^^^ BitVec.ofInt 64 18446744073709551615 : BitVec 64).toNat : Nat) : Int) = 18446744073709551615 - x
  have h2 : BitVec.ofInt 64 18446744073709551615 = BitVec.allOnes 64 := by decide
  rw [h2, BitVec.xor_allOnes, IntKind.wrap_u64, BitVec.toNat_not, BitVec.toNat_ofInt]
  omega
theorem xor_zero_i64 (x : Int) (h0 : -9223372036854775808 ≤ x) (h1 : x < 9223372036854775808) : bits BinOp.xor IntKind.i64 x 0 = x := by
  show IntKind.i64.wrap (((BitVec.ofInt 64 x ^^^ BitVec.ofInt 64 0 : BitVec 64).toNat : Nat) : Int) = x
  have : BitVec.ofInt 64 x ^^^ BitVec.ofInt 64 0 = BitVec.ofInt 64 x := by simp
  rw [this, IntKind.wrap_i64, BitVec.toNat_ofInt]
  omega
theorem xor_ones_i64 (x : Int) (h0 : -9223372036854775808 ≤ x) (h1 : x < 9223372036854775808) : bits BinOp.xor IntKind.i64 x (-1) = -x - 1 := by
  show IntKind.i64.wrap (((BitVec.ofInt 64 x ^^^ BitVec.ofInt 64 (-1) : BitVec 64).toNat : Nat) : Int) = -x - 1
  have h2 : BitVec.ofInt 64 (-1) = BitVec.allOnes 64 := by decide
  rw [h2, BitVec.xor_allOnes, IntKind.wrap_i64, BitVec.toNat_not, BitVec.toNat_ofInt]
  omega
/-- The fold of a signed number, and back. -/
def foldV (y : Int) : Int := if 0 ≤ y then 2 * y else -2 * y - 1
def unfV (x : Int) : Int := if x % 2 = 0 then x / 2 else -(x / 2) - 1
theorem unf_fold (y : Int) : unfV (foldV y) = y := by
  unfold unfV foldV
  split <;> split <;> omega
theorem foldV_bd {y : Int} (h0 : -9223372036854775808 ≤ y) (h1 : y < 9223372036854775808) : 0 ≤ foldV y ∧ foldV y < 18446744073709551616 := by unfold foldV; split <;> omega
theorem Fold_any (y : Int) (h0 : -9223372036854775808 ≤ y) (h1 : y < 9223372036854775808) (w : World) : Calls Tryz.prog 202 #[.int .i64 y] w fun e w' => e = .returned (.int .u64 (foldV y)) ∧ w = w' := by
  have HV : Hid (bits BinOp.xor IntKind.u64 (IntKind.u64.wrap (IntKind.u64.wrap y * 2)) (IntKind.u64.wrap (y / 9223372036854775808)) = foldV y) := by
    unfold Hid foldV
    by_cases hy : 0 ≤ y
    · have e1 : IntKind.u64.wrap (y / 9223372036854775808) = 0 := by rw [IntKind.wrap_u64]; omega
      have e2 : IntKind.u64.wrap (IntKind.u64.wrap y * 2) = 2 * y := by rw [IntKind.wrap_u64, IntKind.wrap_u64]; omega
      rw [e1, e2, if_pos hy, xor_zero_u64 _ (by omega) (by omega)]
    · have e1 : IntKind.u64.wrap (y / 9223372036854775808) = 18446744073709551615 := by rw [IntKind.wrap_u64]; omega
      have e2 : IntKind.u64.wrap (IntKind.u64.wrap y * 2) = 18446744073709551616 + 2 * y := by rw [IntKind.wrap_u64, IntKind.wrap_u64]; omega
      rw [e1, e2, if_neg hy, xor_ones_u64 _ (by omega) (by omega)]
      omega
  clear h0 h1
  go_enter Tryz.func202, Tryz.ntmps202
  go_wp2_with fail
  go_ret
  exact ⟨by rw [← HV.out]; rfl, rfl⟩
theorem Unfold_any (x : Int) (h0 : 0 ≤ x) (h1 : x < 18446744073709551616) (w : World) : Calls Tryz.prog 129 #[.int .u64 x] w fun e w' => e = .returned (.int .i64 (unfV x)) ∧ w = w' := by
  have HV : Hid (bits BinOp.xor IntKind.i64 (wrap64 (x / 2)) (wrap64 (-wrap64 (bits BinOp.and IntKind.u64 x 1))) = unfV x) := by
    have e0 : bits BinOp.and IntKind.u64 x 1 = x % 2 := and_one_u64 x h0 (by omega)
    have e1 : wrap64 (x / 2) = x / 2 := by unfold wrap64; omega
    have e3 : wrap64 (x % 2) = x % 2 := by unfold wrap64; omega
    unfold Hid unfV
    rw [e0, e1, e3]
    by_cases hx : x % 2 = 0
    · have e2 : wrap64 (-(x % 2)) = 0 := by unfold wrap64; omega
      rw [e2, if_pos hx, xor_zero_i64 _ (by omega) (by omega)]
    · have e2 : wrap64 (-(x % 2)) = -1 := by unfold wrap64; omega
      rw [e2, if_neg hx, xor_ones_i64 _ (by omega) (by omega)]
  clear h0 h1
  go_enter Tryz.func129, Tryz.ntmps129
  go_wp2_with fail
  go_ret
  exact ⟨by rw [← HV.out]; rfl, rfl⟩
def numsV (B : Nat) : Value := .agg #[.pointer none, .pointer none, .pointer none, .pointer (some ⟨B, 3, none⟩), .pointer (some ⟨B, 4, none⟩), .pointer (some ⟨B, 5, none⟩), .pointer (some ⟨B, 6, none⟩), .pointer (some ⟨B, 7, none⟩), .pointer (some ⟨B, 8, none⟩), .pointer (some ⟨B, 9, none⟩), .pointer none, .pointer none]
theorem infoNums : (Tryz.prog.info? 307).map (·.size) = some 12 := by kernel_rfl
theorem numbers_any (B : Nat) (w : World) : Calls Tryz.prog 199 #[.pointer (some ⟨B, 0, none⟩)] w fun e w' => e = .returned (numsV B) ∧ Below w.heap.size w w' := by
  go_enter Tryz.func199, Tryz.ntmps199
  go_wp2_with fail
  go_region
  have hh := World.alloc_heap_new w (.cells #[.pointer none, .pointer none, .pointer none, .pointer (some ⟨B, 3, none⟩), .pointer (some ⟨B, 4, none⟩), .pointer (some ⟨B, 5, none⟩), .pointer (some ⟨B, 6, none⟩), .pointer (some ⟨B, 7, none⟩), .pointer (some ⟨B, 8, none⟩), .pointer (some ⟨B, 9, none⟩), .pointer none, .pointer none] 307)
  have HB := Lib.hid (below_drew_ ((Below.refl _ _).alloc (Nat.le_refl w.heap.size) (.cells #[.pointer none, .pointer none, .pointer none, .pointer (some ⟨B, 3, none⟩), .pointer (some ⟨B, 4, none⟩), .pointer (some ⟨B, 5, none⟩), .pointer (some ⟨B, 6, none⟩), .pointer (some ⟨B, 7, none⟩), .pointer (some ⟨B, 8, none⟩), .pointer (some ⟨B, 9, none⟩), .pointer none, .pointer none] 307)))
  go_wp2_with fail
  exact bodyPost_ret (results_cell_row rfl _ _ w.heap.size _ _ _ _ rfl hh Tryz.underlying307 rfl infoNums) rfl ⟨rfl, HB.out⟩
end Eng
end Go.Proofs.YtdfmgneicdpjmaaGreat

/- num.Read, num.Last, num.Int, field.Value at whatever bytes. -/
namespace Go.Proofs.YtdfmgneicdpjmaaGreat
open Go.RowKit Go.Shelf
set_option linter.unusedVariables false
set_option linter.unusedSimpArgs false
set_option maxRecDepth 100000
namespace Resp

/-- The number that digits to the base 256 are. -/
def beV (l : List Int) : Int := l.foldl (fun x d => x * 256 + d) 0
theorem beV_take {l : List Int} {k : Nat} (hk : k < l.length) : beV (l.take (k + 1)) = beV (l.take k) * 256 + l[k] := by
  unfold beV
  rw [List.take_succ_eq_append_getElem hk, List.foldl_append]
  rfl
def Octets (zs : List Int) : Prop := ∀ z ∈ zs, 0 ≤ z ∧ z ≤ 255
theorem beV_lt {l : List Int} (h : Octets l) : ∀ k, k ≤ l.length → 0 ≤ beV (l.take k) ∧ beV (l.take k) < 256 ^ k
  | 0, _ => by simp [beV]
  | k + 1, hk => by
    obtain ⟨h1, h2⟩ := beV_lt h k (by omega)
    have h3 := h _ (List.getElem_mem (by omega : k < l.length))
    rw [beV_take (by omega), Int.pow_succ]
    omega
theorem shl_or (x d : Int) (hx0 : 0 ≤ x) (hx : x < 72057594037927936) (hd0 : 0 ≤ d) (hd : d ≤ 255) : bits .or .u64 (x * 256) d = x * 256 + d :=
  bits_join .u64 64 (by decide) wraps_u64 8 (x * 256) d (by omega) (by omega) (by omega) hd0 (by omega) (by omega)
/-- What num.Read returns at place p. -/
def readN (zs : List Int) (p : Nat) : Int × Int × Int :=
  if zs.length ≤ p then (0, 0, 10)
  else if zs[p]?.getD 0 ≤ 246 then (zs[p]?.getD 0, 1, 0)
  else if zs[p]?.getD 0 = 255 then (0, 0, 11)
  else if (zs.length : Int) - p - 1 < zs[p]?.getD 0 - 246 then (0, 0, 10)
  else if zs[p + 1]?.getD 0 = 0 ∨ beV ((zs.drop (p + 1)).take (zs[p]?.getD 0 - 246).toNat) ≤ 246 then (0, 0, 11)
  else (beV ((zs.drop (p + 1)).take (zs[p]?.getD 0 - 246).toNat), zs[p]?.getD 0 - 246 + 1, 0)
theorem readN_at {zs : List Int} {p : Nat} (h : p < zs.length) : readN zs p = if zs[p] ≤ 246 then (zs[p], 1, 0) else if zs[p] = 255 then (0, 0, 11) else if (zs.length : Int) - p - 1 < zs[p] - 246 then (0, 0, 10) else if zs[p + 1]?.getD 0 = 0 ∨ beV ((zs.drop (p + 1)).take (zs[p] - 246).toNat) ≤ 246 then (0, 0, 11) else (beV ((zs.drop (p + 1)).take (zs[p] - 246).toNat), zs[p] - 246 + 1, 0) := by
  unfold readN
  rw [if_neg (by omega), List.getElem?_eq_getElem h]
  rfl
def RdN (W : World) (zs : List Int) (p : Nat) (e : Ending) (w' : World) : Prop := e = .returned (.tuple #[.int .u64 (readN zs p).1, .int .i64 (readN zs p).2.1, .int .i64 (readN zs p).2.2]) ∧ W = w'
theorem RdN.mk {W : World} {zs : List Int} {p : Nat} {x y z : Int} (h : readN zs p = (x, y, z)) : RdN W zs p (.returned (.tuple #[.int .u64 x, .int .i64 y, .int .i64 z])) W := ⟨by rw [h], rfl⟩
theorem Octets.drop {zs : List Int} (h : Octets zs) (k : Nat) : Octets (zs.drop k) := fun z hz => h z (List.mem_of_mem_drop hz)
set_option maxHeartbeats 1000000 in
theorem NumRead_any (v : Value) (zs : List Int) (W : World) (p : Nat) (h : Reads .u8 W v zs) (hz : Octets zs) (hl : zs.length ≤ 100000) (hp : p ≤ zs.length) :
    Calls Tryz.prog 172 #[v, .int .i64 (p : Int)] W (RdN W zs p) := by
  by_cases hpl : p = zs.length
  · have hv : ∃ a c, v = .slice a zs.length c := by
      rcases h with ⟨a, c, rfl, rfl⟩ | ⟨b, o, c, rfl, _⟩
      · exact ⟨_, _, rfl⟩
      · exact ⟨_, _, rfl⟩
    obtain ⟨a, c, rfl⟩ := hv
    have HF := Lib.hid (show readN zs p = (0, 0, 10) by unfold readN; rw [if_pos (by omega)])
    have hlI : (p : Int) = zs.length := by omega
    rw [hlI]
    clear h hlI hp
    have hl9 : zs.length ≤ 100000 := hl
    clear hl hpl
    generalize zs.length = n at *
    have hd0 : decide ((n : Int) < 0) = false := by simp
    have hd1 : decide (n < n) = false := by simp
    go_enter Tryz.func172, Tryz.ntmps172
    go_wp2_with fail
    go_step3
    go_wp2_with fail
    rw [Exit.noGoto_ret]
    go_returns
    exact RdN.mk HF.out
  · rcases h with ⟨a, c, rfl, h0⟩ | ⟨b, o, c, rfl, hl2, hc⟩
    · rw [h0] at hp hpl; simp at hp hpl; omega
    · have hlt : p < zs.length := by omega
      have hcell := hc p hlt
      have hx := hz _ (List.getElem_mem hlt)
      have hpI : (p : Int) < zs.length := by omega
      have hpb : ((p : Int) == (zs.length : Int)) = false := by simp; omega
      have hd0 : decide ((p : Int) < 0) = false := by simp
      have hd1 : decide (zs.length < p) = false := by simp; omega
      have hge : zs[p]?.getD 0 = zs[p] := by rw [List.getElem?_eq_getElem hlt]; rfl
      have HR := Lib.hid (readN_at hlt)
      rw [hge] at hcell
      have HC := Lib.hid hc
      have HZ := Lib.hid hz
      clear hc hz hge
      generalize zs[p] = x at *
      by_cases h1 : x ≤ 246
      · have HF := Lib.hid (show readN zs p = (x, 1, 0) by have := HR.out; rw [if_pos h1] at this; exact this)
        have hw : IntKind.u64.wrap x = x := by rw [IntKind.wrap_u64]; omega
        clear HR hpl hlt
        go_enter Tryz.func172, Tryz.ntmps172
        go_wp2_with fail
        go_step3
        go_wp2_with fail
        rw [Exit.noGoto_ret]
        go_returns
        exact RdN.mk HF.out
      · by_cases h2 : x = 255
        · have HF := Lib.hid (show readN zs p = (0, 0, 11) by have := HR.out; rw [if_neg h1, if_pos h2] at this; exact this)
          subst h2
          clear HR hpl hlt
          go_enter Tryz.func172, Tryz.ntmps172
          go_wp2_with fail
          go_step3
          go_wp2_with fail
          rw [Exit.noGoto_ret]
          go_returns
          exact RdN.mk HF.out
        · have h2b : (x == 255) = false := by simpa using h2
          obtain ⟨m, hm⟩ : ∃ m : Nat, x = (m : Int) + 246 := ⟨(x - 246).toNat, by omega⟩
          subst hm
          have hm1 : 1 ≤ m := by omega
          have hm8 : m ≤ 8 := by omega
          have hw9 : IntKind.i64.wrap ((m : Int) + 246 - 246) = (m : Int) := by rw [IntKind.wrap_i64]; omega
          by_cases h3 : (zs.length : Int) - p - 1 < (m : Int)
          · have HF := Lib.hid (show readN zs p = (0, 0, 10) by have := HR.out; rw [if_neg h1, if_neg h2, if_pos (by omega)] at this; exact this)
            clear HR hpl hlt HC h2
            generalize zs.length = n at *
            go_enter Tryz.func172, Tryz.ntmps172
            go_wp2_with fail
            go_step3
            go_wp2_with fail
            rw [Exit.noGoto_ret]
            go_returns
            exact RdN.mk HF.out
          · have h3I : ¬ (zs.length : Int) - p - 1 < (m : Int) := h3
            have hto : ((m : Int) + 246 - 246).toNat = m := by omega
            have hpm : p + 1 + m ≤ zs.length := by omega
            have HD := Lib.hid (show (zs.drop (p + 1)).length = zs.length - (p + 1) by simp)
            have HF : Hid (readN zs p = if zs[p + 1]?.getD 0 = 0 ∨ beV ((zs.drop (p + 1)).take m) ≤ 246 then (0, 0, 11) else (beV ((zs.drop (p + 1)).take m), (m : Int) + 1, 0)) := by
              have := HR.out
              rw [if_neg h1, if_neg h2, if_neg (by omega), hto] at this
              rw [Hid, this]
              have h9 : (m : Int) + 246 - 246 + 1 = (m : Int) + 1 := by omega
              rw [h9]
            have HO := Lib.hid (Octets.drop HZ.out (p + 1))
            have HG : Hid (∀ j, j < m → (zs.drop (p + 1))[j]? = some (zs[p + 1 + j]?.getD 0)) := fun j hj => by
              rw [List.getElem?_drop, List.getElem?_eq_getElem (by omega)]; rfl
            have HC2 : Hid (∀ j, j < m → W.cell? ⟨b, o + (p + 1 + j), none⟩ = some (.int .u8 (zs[p + 1 + j]?.getD 0))) := fun j hj => HC.out (p + 1 + j) (by omega)
            clear HR HC HZ h2 h1 hto hlt hpl hp h3
            have hf1 : decide ((m : Int) + 246 ≤ 246) = false := by simp; omega
            generalize zs.drop (p + 1) = ds at *
            generalize zs.length = n at *
            go_enter Tryz.func172, Tryz.ntmps172
            go_wp2_with fail
            go_step3
            go_wp2_with fail
            go_step3
            go_wp2_with fail
            go_loop [8, 9, 57] (fun x y i => ∃ k : Nat, k ≤ m ∧ i = .int .i64 k ∧ x = .int .u64 (beV (ds.take k)) ∧ y = .int .i64 0 ∧ Hid (0 < k → ¬ zs[p + 1]?.getD 0 = 0)) (fun _ _ i => m - (intOf i).toNat)
            case atStart => exact ⟨0, Nat.zero_le _, rfl, rfl, rfl, fun h => absurd h (Nat.lt_irrefl _)⟩
            case round =>
              obtain ⟨k, hk, rfl, rfl, rfl, HN⟩ := hrel
              have hbl := beV_lt HO.out k (by have := HD.out; omega)
              by_cases hlt : k < m
              · have hkI : (k : Int) < m := by omega
                have hq := HC2.out k hlt
                have hdk : ds[k]? = some (zs[p + 1 + k]?.getD 0) := HG.out k hlt
                have hk2 : k < ds.length := by have := HD.out; omega
                have hde : ds[k] = zs[p + 1 + k]?.getD 0 := by rw [List.getElem?_eq_getElem hk2] at hdk; injection hdk
                have hdb := HO.out _ (List.getElem_mem hk2)
                have HT := Lib.hid (beV_take hk2)
                rw [hde] at HT hdb
                have hx7 : beV (ds.take k) < 72057594037927936 := by
                  have h9 : (256 : Nat) ^ k ≤ 256 ^ 7 := Nat.pow_le_pow_right (by omega) (by omega)
                  have h8 : (256 : Nat) ^ 7 = 72057594037927936 := by decide
                  have h7 : (256 : Int) ^ k = ((256 ^ k : Nat) : Int) := by simp
                  rw [h7] at hbl
                  omega
                have HZ0 : Hid (k = 0 → zs[p + 1 + k]?.getD 0 = zs[p + 1]?.getD 0) := fun h => by subst h; rfl
                clear hdk hde
                obtain ⟨hb0, -⟩ := hbl
                generalize zs[p + 1 + k]?.getD 0 = d at *
                generalize hX : beV (ds.take k) = X at *
                have HXX := Lib.hid hX
                clear hX
                have hs1 : IntKind.u64.wrap (X * 256) = X * 256 := by rw [IntKind.wrap_u64]; omega
                have hs2 := shl_or X d hb0 hx7 hdb.1 hdb.2
                have hw1 : IntKind.u64.wrap d = d := by rw [IntKind.wrap_u64]; omega
                by_cases hk0 : k = 0
                · subst hk0
                  have hd1' := HZ0.out rfl
                  by_cases hz : d = 0
                  · have HF2 : Hid (readN zs p = (0, 0, 11)) := by rw [Hid, HF.out, if_pos (.inl (by rw [← hd1', hz]))]
                    subst hz
                    clear hd1' HF
                    go_wp2_with fail
                    go_returns
                    exact RdN.mk HF2.out
                  · have HNZ : Hid (¬ zs[p + 1]?.getD 0 = 0) := by rw [Hid, ← hd1']; exact hz
                    have hdb0 : (d == 0) = false := by simpa using hz
                    clear hd1'
                    go_wp2_with fail
                    exact ⟨⟨0 + 1, by omega, by simp, by rw [HT.out], rfl, fun _ => HNZ.out⟩, by simp [intOf]; omega⟩
                · have hk0b : ((k : Int) == 0) = false := by simp; omega
                  have HN2 := Lib.hid (HN.out (by omega))
                  go_wp2_with fail
                  exact ⟨⟨k + 1, by omega, by simp, by rw [HT.out], rfl, fun _ => HN2.out⟩, by simp [intOf]; omega⟩
              · obtain rfl : k = m := by omega
                have HN2 := Lib.hid (HN.out (by omega))
                have hw1 : IntKind.i64.wrap ((k : Int) + 1) = (k : Int) + 1 := by rw [IntKind.wrap_i64]; omega
                obtain ⟨hb0, -⟩ := hbl
                generalize beV (ds.take k) = X at *
                by_cases hX : X ≤ 246
                · have HF2 : Hid (readN zs p = (0, 0, 11)) := by rw [Hid, HF.out, if_pos (.inr hX)]
                  have hXd : decide (X ≤ 246) = true := by simpa using hX
                  clear HF
                  go_wp2_with fail
                  go_returns
                  exact RdN.mk HF2.out
                · have HF2 : Hid (readN zs p = (X, (k : Int) + 1, 0)) := by rw [Hid, HF.out, if_neg (by rintro (h | h); exact HN2.out h; exact hX h)]
                  have hXd : decide (X ≤ 246) = false := by simpa using hX
                  clear HF
                  go_wp2_with fail
                  go_returns
                  exact RdN.mk HF2.out
end Resp
end Go.Proofs.YtdfmgneicdpjmaaGreat
