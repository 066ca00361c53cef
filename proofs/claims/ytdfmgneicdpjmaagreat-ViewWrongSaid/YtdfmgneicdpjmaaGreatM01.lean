import Derived.Test.YtdfmgneicdpjmaaGreatM00
import Derived.Laws.Rows
import Derived.Handy
import Derived.DeepKeys
/- A number as a field: num.Append in one contract, field.Number. -/
namespace Go.Proofs.YtdfmgneicdpjmaaGreat
open Go.RowKit Go.Shelf
set_option linter.unusedVariables false
set_option linter.unusedSimpArgs false
set_option maxRecDepth 100000
namespace Resp

/-- The bytes of a number. -/
def numBytes (x : Nat) : List Int := if x ≤ 246 then [(x : Int)] else ((246 + numLen x : Nat) : Int) :: (List.range (numLen x)).map fun j => ((x / 256 ^ (numLen x - 1 - j) % 256 : Nat) : Int)
def u8s (l : List Int) : List Value := l.map (Value.int .u8)
theorem numBytes_length {x : Nat} (hx : x < 18446744073709551616) : (numBytes x).length = sizeN x ∧ sizeN x ≤ 9 := by
  have := numLen_le 8 x (by simpa using hx)
  unfold numBytes sizeN
  split
  · simp
  · simp; omega

theorem Append_any (x : Nat) (hx : x < 18446744073709551616) (base n : Nat) (v : Value) (xs : List Value) (w : World) (hown : w.ownsRow base 5 1 v n xs) (hn : n ≤ 1048576) (hbase : base ≤ w.heap.size) :
    Calls Tryz.prog 197 #[v, .int .u64 x] w fun e w' => ∃ v', e = .returned v' ∧ w'.ownsRow base 5 1 v' (n + sizeN x) (xs ++ u8s (numBytes x)) ∧ Mod (fun k => some k = v.ownBlock) w w' := by
  by_cases h : x ≤ 246
  · refine (Append_small x h base n v xs w hown hn hbase).mono ?_
    rintro e w' ⟨v', rfl, h1, h2⟩
    refine ⟨v', rfl, ?_, h2⟩
    rw [numBytes, if_pos h, sizeN, if_pos h]
    exact h1
  · refine (Append_big x (by omega) hx base n v xs w hown hn hbase).mono ?_
    rintro e w' ⟨v', rfl, h1, h2⟩
    refine ⟨v', rfl, ?_, h2⟩
    rw [numBytes, if_neg h, sizeN, if_neg h, u8s, List.map_cons, List.map_map]
    exact h1

theorem owns_nil (W : World) (base : Nat) (e : TypeId) (size : Nat) : W.ownsRow base e size (.slice none 0 0) 0 [] := ⟨by simp, .inl ⟨rfl, rfl⟩⟩

theorem ownBlock_ge_ {W : World} {base : Nat} {e : TypeId} {size : Nat} {v : Value} {k : Nat} {xs : List Value} (h : W.ownsRow base e size v k xs) {g : Nat} (hg : v.ownBlock = some g) : base ≤ g := by
  rcases h.2 with ⟨rfl, rfl⟩ | ⟨g', cap, cur, rfl, hb, hgg, rest⟩
  · cases hg
  · cases hg; exact hb
theorem pair_cells_ {W : World} {g : Nat} {a b : Value} {T : TypeId} (h : W.heap[g]? = some (.cells #[a, b] T)) : W.cell? ⟨g, 0, none⟩ = some a ∧ W.cell? ⟨g, 1, none⟩ = some b ∧ W.frozen? ⟨g, 0, none⟩ = false ∧ W.frozen? ⟨g, 1, none⟩ = false :=
  ⟨by simp [World.cell?, h], by simp [World.cell?, h], by simp [World.frozen?, h], by simp [World.frozen?, h]⟩
theorem heap_set_ {W : World} {g : Nat} {cs : Array Value} {T : TypeId} {fr : Nat × Nat} (h : W.heap[g]? = some (.cells cs T fr)) (i : Nat) (v : Value) : (W.setCell ⟨g, i, none⟩ v).heap[g]? = some (.cells (cs.setIfInBounds i v) T fr) := by
  obtain ⟨hlt, he⟩ := Array.getElem?_eq_some_iff.1 h
  show (W.heap.modify g _)[g]? = _
  rw [Array.getElem?_eq_getElem (by rw [Array.size_modify]; exact hlt), Array.getElem_modify_self, he]
  rfl
theorem pair_set_ {W : World} {g : Nat} {a b a' b' : Value} {T : TypeId} (h : W.heap[g]? = some (.cells #[a, b] T)) : ((W.setCell ⟨g, 0, none⟩ a').setCell ⟨g, 1, none⟩ b').heap[g]? = some (.cells #[a', b'] T) :=
  heap_set_ (heap_set_ h 0 a') 1 b'
theorem infoField : (Tryz.prog.info? 141).map (·.size) = some 2 := by kernel_rfl
theorem Number_any (tag : Int) (x : Nat) (hx : x < 18446744073709551616) (w : World) :
    Calls Tryz.prog 201 #[.int .i64 tag, .int .u64 x] w fun e w' => ∃ v', e = .returned (.agg #[.int .i64 tag, v']) ∧ w'.ownsRow w.heap.size 5 1 v' (sizeN x) (u8s (numBytes x)) ∧ Below w.heap.size w w' := by
  go_enter Tryz.func201, Tryz.ntmps201
  go_wp2_with fail
  have hs1 : (w.alloc (.cells #[.int .i64 0, .slice none 0 0] 141)).heap.size = w.heap.size + 1 := by simp
  have hb1 : Below w.heap.size w (w.alloc (.cells #[.int .i64 0, .slice none 0 0] 141)) := (Below.refl _ _).alloc (Nat.le_refl _) _
  have hf1 : (w.alloc (.cells #[.int .i64 0, .slice none 0 0] 141)).heap[w.heap.size]? = some (.cells #[.int .i64 0, .slice none 0 0] 141) := World.alloc_heap_new w _
  generalize w.alloc (.cells #[.int .i64 0, .slice none 0 0] 141) = W1 at *
  refine (Append_any x hx (w.heap.size + 1) 0 (.slice none 0 0) [] W1 (owns_nil _ _ _ _) (by omega) (by omega)).mono ?_; rintro e w' ⟨v', rfl, hown, hm⟩
  have hk : w'.heap[w.heap.size]? = some (.cells #[.int .i64 0, .slice none 0 0] 141) := hm.heap hf1 (by simp [Value.ownBlock])
  have hm0 : Below W1.heap.size W1 w' := hm.below (Nat.le_refl _) (by simp [Value.ownBlock])
  have hb2 : Below w.heap.size w w' := hb1.trans (hm0.mono (by omega))
  have hlt : w.heap.size < w'.heap.size := (Array.getElem?_eq_some_iff.1 hk).1
  obtain ⟨a, c, e⟩ := ownsRow_form hown
  subst e
  have HO := Lib.hid hown
  obtain ⟨hc0, hc1, hz0, hz1⟩ := pair_cells_ hk
  clear hm hm0 hown
  go_wp2_with fail
  refine bodyPost_ret (results_cell_row rfl _ _ w.heap.size _ _ _ _ rfl (pair_set_ hk) Tryz.underlying141 rfl infoField) rfl ?_
  have hst : ∀ (k : Nat), (Value.slice a (0 + sizeN x) c).ownBlock = some k → w.heap.size + 1 ≤ k := fun k e => ownBlock_ge_ HO.out e
  refine ⟨_, rfl, ?_, (hb2.setCell (p := ⟨w.heap.size, 0, none⟩) (Nat.le_refl _) _).setCell (p := ⟨w.heap.size, 1, none⟩) (Nat.le_refl _) _⟩
  have h3 := ownsRow_mod (S := fun k => k = w.heap.size) HO.out (((Mod.refl (fun k => k = w.heap.size) w').setCell (p := ⟨w.heap.size, 0, none⟩) (.inr rfl) (.int .i64 tag)).setCell (p := ⟨w.heap.size, 1, none⟩) (.inr rfl) (.slice a (sizeN x) c)) (fun g e h => by have := hst g e; omega)
  simpa using ownsRow_base h3 (base' := w.heap.size) (by omega)
end Resp
end Go.Proofs.YtdfmgneicdpjmaaGreat

/- code.Form, width, registers. -/
namespace Go.Proofs.YtdfmgneicdpjmaaGreat
open Go.RowKit Go.Shelf
set_option linter.unusedVariables false
set_option linter.unusedSimpArgs false
set_option maxRecDepth 100000
namespace Eng
open Resp

/-- The letters of an instruction's form, and whether there is such an instruction. -/
def frmL (op : Int) : List UInt8 :=
  if 32 < op ∧ op ≤ 49 then [114, 114, 114] else if op = 3 then [114, 110] else if 4 ≤ op ∧ op ≤ 7 then [114, 114] else if op = 8 then [114, 114, 112] else if op = 9 then [116] else if op = 10 ∨ op = 11 then [114, 116] else []
def frmB (op : Int) : Bool := decide ((1 ≤ op ∧ op ≤ 11) ∨ (32 < op ∧ op ≤ 49))
def frmS (op : Int) : ByteArray := ⟨(frmL op).toArray⟩
theorem run_forms (w : World) (k : Nat) (hk : k < 11) : (Instr.index 420 (.agg #[.int .u8 1, .string ⟨#[]⟩, .int .u8 2, .string ⟨#[]⟩, .int .u8 3, .string ⟨#[114, 110]⟩, .int .u8 4, .string ⟨#[114, 114]⟩, .int .u8 5, .string ⟨#[114, 114]⟩, .int .u8 6, .string ⟨#[114, 114]⟩, .int .u8 7, .string ⟨#[114, 114]⟩, .int .u8 8, .string ⟨#[114, 114, 112]⟩, .int .u8 9, .string ⟨#[116]⟩, .int .u8 10, .string ⟨#[114, 116]⟩, .int .u8 11, .string ⟨#[114, 116]⟩]) (.int .i64 (k : Int))).run Tryz.prog w = .ok (.agg #[.int .u8 ((k : Int) + 1), .string (frmS ((k : Int) + 1))]) w := by
  have hk11 : k = 0 ∨ k = 1 ∨ k = 2 ∨ k = 3 ∨ k = 4 ∨ k = 5 ∨ k = 6 ∨ k = 7 ∨ k = 8 ∨ k = 9 ∨ k = 10 := by omega
  rcases hk11 with rfl | rfl | rfl | rfl | rfl | rfl | rfl | rfl | rfl | rfl | rfl <;> (with_unfolding_all exact rfl)
set_option maxHeartbeats 1000000 in
theorem Form_any (op : Int) (h0 : 0 ≤ op) (h1 : op ≤ 255) (w : World) :
    Calls Tryz.prog 246 #[.int .u8 op] w fun e w' => e = .returned (.tuple #[.string (frmS op), .bool (frmB op)]) ∧ Below w.heap.size w w' := by
  by_cases hb : 32 < op ∧ op ≤ 49
  · obtain ⟨ha, hc⟩ := hb
    have HS : Hid (frmS op = ⟨#[114, 114, 114]⟩) := by simp [Hid, frmS, frmL, ha, hc]
    have HB : Hid (frmB op = true) := by simp [Hid, frmB, ha, hc]
    have hd0 : decide (32 < op) = true := by simpa using ha
    have hd1 : decide (op ≤ 49) = true := by simpa using hc
    go_enter Tryz.func246, Tryz.ntmps246
    go_wp2_with fail
    go_returns
    exact ⟨by rw [HS.out, HB.out]; rfl, Below.refl _ _⟩
  · have HB : Hid (¬ (32 < op ∧ op ≤ 49)) := hb
    clear hb
    go_enter Tryz.func246, Tryz.ntmps246
    by_cases ha : 32 < op
    · have hd0 : decide (32 < op) = true := by simpa using ha
      have hd1 : decide (op ≤ 49) = false := by have := HB.out; simp; omega
      have HO : Hid (∀ j : Nat, j < 11 → ¬ op = (j : Int) + 1) := fun j hj => by omega
      go_wp2_with fail
      go_loopw [24] (fun i wr => ∃ k : Nat, k ≤ 11 ∧ i = .int .i64 k ∧ Hid (∀ j : Nat, j < k → ¬ op = (j : Int) + 1) ∧ Hid (Below w.heap.size w wr)) (fun i _ => 11 - (intOf i).toNat)
      case atStart => exact ⟨0, Nat.zero_le _, rfl, fun j hj => absurd hj (Nat.not_lt_zero _), Below.refl _ _⟩
      case round =>
        obtain ⟨k, hk, rfl, HK, HW⟩ := hrel
        by_cases hlt : k < 11
        · have hkI : (k : Int) < 11 := by omega
          have hrun := fun w => run_forms w k hlt
          by_cases he : op = (k : Int) + 1
          · exact absurd he (HO.out k hlt)
          · have HK2 : Hid (∀ j : Nat, j < k + 1 → ¬ op = (j : Int) + 1) := fun j hj h => by
              by_cases hjk : j = k
              · exact he (by rw [← hjk]; exact h)
              · exact HK.out j (by omega) h
            have hb2 : (op == (k : Int) + 1) = false := beq_eq_false_iff_ne.2 he
            have hb3 : ((k : Int) + 1 == op) = false := beq_eq_false_iff_ne.2 (Ne.symm he)
            clear HK he
            generalize frmS ((k : Int) + 1) = fs at *
            go_wp2_with fail
            exact ⟨⟨k + 1, by omega, by simp, HK2.out, HW.out.alloc HW.out.size _⟩, by simp [intOf]; omega⟩
        · obtain rfl : k = 11 := by omega
          have HS : Hid (frmS op = ⟨#[]⟩ ∧ frmB op = false) := by
            have h1 : ¬ op = 1 := HK.out 0 (by omega)
            have h2 : ¬ op = 2 := HK.out 1 (by omega)
            have h3 : ¬ op = 3 := HK.out 2 (by omega)
            have h4 : ¬ op = 4 := HK.out 3 (by omega)
            have h5 : ¬ op = 5 := HK.out 4 (by omega)
            have h6 : ¬ op = 6 := HK.out 5 (by omega)
            have h7 : ¬ op = 7 := HK.out 6 (by omega)
            have h8 : ¬ op = 8 := HK.out 7 (by omega)
            have h9 : ¬ op = 9 := HK.out 8 (by omega)
            have ha : ¬ op = 10 := HK.out 9 (by omega)
            have hb : ¬ op = 11 := HK.out 10 (by omega)
            have hc := HB.out
            refine ⟨?_, ?_⟩
            · unfold frmS frmL
              rw [if_neg hc, if_neg h3, if_neg (by omega), if_neg h8, if_neg h9, if_neg (by omega)]
            · unfold frmB
              rw [decide_eq_false (by omega)]
          clear HK hlt
          go_wp2_with fail
          go_returns
          exact ⟨by rw [HS.out.1, HS.out.2]; rfl, HW.out⟩
    · have hd0 : decide (32 < op) = false := by simpa using ha
      go_wp2_with fail
      go_loopw [24] (fun i wr => ∃ k : Nat, k ≤ 11 ∧ i = .int .i64 k ∧ Hid (∀ j : Nat, j < k → ¬ op = (j : Int) + 1) ∧ Hid (Below w.heap.size w wr)) (fun i _ => 11 - (intOf i).toNat)
      case atStart => exact ⟨0, Nat.zero_le _, rfl, fun j hj => absurd hj (Nat.not_lt_zero _), Below.refl _ _⟩
      case round =>
        obtain ⟨k, hk, rfl, HK, HW⟩ := hrel
        by_cases hlt : k < 11
        · have hkI : (k : Int) < 11 := by omega
          have hrun := fun w => run_forms w k hlt
          by_cases he : op = (k : Int) + 1
          · have HS : Hid (frmB op = true) := by rw [Hid, frmB, decide_eq_true (by omega)]
            subst he
            clear HK hlt
            generalize hfs : frmS ((k : Int) + 1) = fs at *
            have HFS := Lib.hid hfs
            clear hfs
            go_wp2_with fail
            go_ret2
            exact ⟨by rw [HS.out, HFS.out]; rfl, HW.out.alloc HW.out.size _⟩
          · have HK2 : Hid (∀ j : Nat, j < k + 1 → ¬ op = (j : Int) + 1) := fun j hj h => by
              by_cases hjk : j = k
              · exact he (by rw [← hjk]; exact h)
              · exact HK.out j (by omega) h
            have hb2 : (op == (k : Int) + 1) = false := beq_eq_false_iff_ne.2 he
            have hb3 : ((k : Int) + 1 == op) = false := beq_eq_false_iff_ne.2 (Ne.symm he)
            clear HK he
            generalize frmS ((k : Int) + 1) = fs at *
            go_wp2_with fail
            exact ⟨⟨k + 1, by omega, by simp, HK2.out, HW.out.alloc HW.out.size _⟩, by simp [intOf]; omega⟩
        · obtain rfl : k = 11 := by omega
          have HS : Hid (frmS op = ⟨#[]⟩ ∧ frmB op = false) := by
            have h1 : ¬ op = 1 := HK.out 0 (by omega)
            have h2 : ¬ op = 2 := HK.out 1 (by omega)
            have h3 : ¬ op = 3 := HK.out 2 (by omega)
            have h4 : ¬ op = 4 := HK.out 3 (by omega)
            have h5 : ¬ op = 5 := HK.out 4 (by omega)
            have h6 : ¬ op = 6 := HK.out 5 (by omega)
            have h7 : ¬ op = 7 := HK.out 6 (by omega)
            have h8 : ¬ op = 8 := HK.out 7 (by omega)
            have h9 : ¬ op = 9 := HK.out 8 (by omega)
            have ha : ¬ op = 10 := HK.out 9 (by omega)
            have hb : ¬ op = 11 := HK.out 10 (by omega)
            have hc := HB.out
            refine ⟨?_, ?_⟩
            · unfold frmS frmL
              rw [if_neg hc, if_neg h3, if_neg (by omega), if_neg h8, if_neg h9, if_neg (by omega)]
            · unfold frmB
              rw [decide_eq_false (by omega)]
          clear HK hlt
          go_wp2_with fail
          go_returns
          exact ⟨by rw [HS.out.1, HS.out.2]; rfl, HW.out⟩
theorem width_any (c : Int) (w : World) : Calls Tryz.prog 249 #[.int .i32 c] w fun e w' => e = .returned (.int .i64 (if c = 110 then 8 else if c = 116 then 2 else 1)) ∧ w = w' := by
  by_cases h1 : c = 110
  · subst h1
    go_enter Tryz.func249, Tryz.ntmps249
    go_wp2_with fail
    go_ret
    exact ⟨rfl, rfl⟩
  · by_cases h2 : c = 116
    · subst h2
      go_enter Tryz.func249, Tryz.ntmps249
      go_wp2_with fail
      go_ret
      exact ⟨rfl, rfl⟩
    · have b1 : (c == 110) = false := by simpa using h1
      have b2 : (c == 116) = false := by simpa using h2
      have HV : Hid ((if c = 110 then (8 : Int) else if c = 116 then 2 else 1) = 1) := by rw [Hid, if_neg h1, if_neg h2]
      rw [HV.out]
      clear h1 h2
      go_enter Tryz.func249, Tryz.ntmps249
      go_wp2_with fail
      go_ret
      exact ⟨rfl, rfl⟩
theorem infoRegs : (Tryz.prog.info? 378).map (·.size) = some 3 := by kernel_rfl
theorem registers_any (op a b c n : Int) (w : World) : Calls Tryz.prog 247 #[.agg #[.int .u8 op, .int .u8 a, .int .u8 b, .int .u8 c, .int .i64 n]] w fun e w' => e = .returned (.agg #[.int .u8 a, .int .u8 b, .int .u8 c]) ∧ Below w.heap.size w w' := by
  go_enter Tryz.func247, Tryz.ntmps247
  go_wp2_with fail
  have hh := World.alloc_heap_new (w.alloc (.cells #[.int .u8 op, .int .u8 a, .int .u8 b, .int .u8 c, .int .i64 n] 169)) (.cells #[.int .u8 a, .int .u8 b, .int .u8 c] 378)
  simp only [World.size_alloc] at hh
  exact bodyPost_ret (results_cell_row rfl _ _ (w.heap.size + 1) _ _ _ _ rfl hh Tryz.underlying378 rfl infoRegs) rfl ⟨rfl, ((Below.refl _ _).alloc (Nat.le_refl _) _).alloc (by simp) _⟩
end Eng
end Go.Proofs.YtdfmgneicdpjmaaGreat

/- == at arrays of three bytes. -/
namespace Go.Proofs.YtdfmgneicdpjmaaGreat
open Go.RowKit Go.Shelf
set_option linter.unusedVariables false
set_option linter.unusedSimpArgs false
set_option maxRecDepth 100000
namespace Eng

theorem infoU8 : Tryz.prog.info? 5 = some (Tryz.prog.types[5]'(of_decide_eq_true (by kernel_rfl))) := by kernel_rfl
theorem cellsU8 : Tryz.prog.cellsOf 5 = 1 := by kernel_rfl
theorem partU8 (cs : Array Value) (off : Nat) (w : World) (v : Value) (h : cs[off]? = some v) : (part 5 cs off).run Tryz.prog w = .ok v w := by
  have : (isAgg 5).run Tryz.prog w = .ok false w := by with_unfolding_all exact rfl
  simp only [part, Sem.run_bind, this, Result.andThen_ok, h]
  simp
theorem eq3_u8 (x y z a b c : Int) (w : World) : (Op.equalIn 10000 378 (.agg #[.int .u8 x, .int .u8 y, .int .u8 z]) (.agg #[.int .u8 a, .int .u8 b, .int .u8 c])).run Tryz.prog w = .ok (decide (x = a ∧ y = b ∧ z = c)) w := by
  rw [run_equalIn_array w 9999 _ _ Tryz.underlying378 infoU8, cellsU8]
  have h8 : ∀ a b : Int, (Op.equalIn 9999 5 (.int .u8 a) (.int .u8 b)).run Tryz.prog w = .ok (a == b) w := fun a b => run_equalIn_int w 9998 _ _ _ a b Tryz.underlying5
  have hp : ∀ x y z : Int, (part 5 #[.int .u8 x, .int .u8 y, .int .u8 z] 0).run Tryz.prog w = .ok (.int .u8 x) w ∧ (part 5 #[.int .u8 x, .int .u8 y, .int .u8 z] 1).run Tryz.prog w = .ok (.int .u8 y) w ∧ (part 5 #[.int .u8 x, .int .u8 y, .int .u8 z] 2).run Tryz.prog w = .ok (.int .u8 z) w := fun x y z => ⟨partU8 _ 0 w _ rfl, partU8 _ 1 w _ rfl, partU8 _ 2 w _ rfl⟩
  have hl : List.range 3 = [0, 1, 2] := rfl
  rw [hl]
  have e1 : ∀ b : Bool, ∀ w : World, (if b = false then (Result.ok false w : Result Bool) else Result.ok true w) = Result.ok b w := by intro b w; cases b <;> rfl
  simp only [Op.eqItems, Sem.run_bind, Nat.zero_mul, Nat.one_mul, Nat.mul_one, (hp _ _ _).1, Result.andThen_ok, h8]
  cases h1 : (x == a) with
  | false =>
    have : ¬ x = a := by simpa using h1
    simp [this]
  | true =>
    have hxa : x = a := by simpa using h1
    subst hxa
    simp only [Bool.not_true, Bool.false_eq_true, if_false, Sem.run_bind, (hp _ _ _).2.1, Result.andThen_ok, h8]
    cases h2 : (y == b) with
    | false =>
      have : ¬ y = b := by simpa using h2
      simp [this]
    | true =>
      have hyb : y = b := by simpa using h2
      subst hyb
      simp only [Bool.not_true, Bool.false_eq_true, if_false, Sem.run_bind, (hp _ _ _).2.2, Result.andThen_ok, h8]
      cases h3 : (z == c) with
      | false =>
        have : ¬ z = c := by simpa using h3
        simp [this]
      | true =>
        have hzc : z = c := by simpa using h3
        subst hzc
        simp
end Eng
end Go.Proofs.YtdfmgneicdpjmaaGreat
