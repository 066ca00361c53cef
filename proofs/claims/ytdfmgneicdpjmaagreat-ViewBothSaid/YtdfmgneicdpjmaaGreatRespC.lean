/- Lists of fields: field.Right where it says yes. -/
import Derived.Test.YtdfmgneicdpjmaaGreatRespB
import Derived.BigQuiet
import Derived.WalkSmall
namespace Go.Proofs.YtdfmgneicdpjmaaGreat
open Go.RowKit Go.Shelf
set_option linter.unusedVariables false
set_option linter.unusedSimpArgs false
set_option maxRecDepth 100000
namespace Resp

/-- A field: its tag, its value, the value's bytes. -/
abbrev F := Int × Value × List Int
def fNo : F := (0, .slice none 0 0, [])
def ReadsFields (w : World) (v : Value) (fs : List F) : Prop :=
  (∃ a cap, v = .slice a 0 cap ∧ fs = []) ∨ ∃ b cap, v = .slice (some ⟨b, 0, none⟩) fs.length cap ∧ ∀ i, i < fs.length →
    w.cell? ⟨b, i * 2, none⟩ = some (.int .i64 (fs[i]?.getD fNo).1) ∧ w.cell? ⟨b, i * 2 + 1, none⟩ = some (fs[i]?.getD fNo).2.1 ∧ Reads .u8 w (fs[i]?.getD fNo).2.1 (fs[i]?.getD fNo).2.2
theorem Reads.form_ {k : IntKind} {w : World} {v : Value} {zs : List Int} (h : Reads k w v zs) : ∃ a c, v = .slice a zs.length c := by
  rcases h with ⟨a, c, rfl, rfl⟩ | ⟨b, o, c, rfl, _⟩
  · exact ⟨_, _, rfl⟩
  · exact ⟨_, _, rfl⟩
theorem ReadsFields.form_ {w : World} {v : Value} {fs : List F} (h : ReadsFields w v fs) : ∃ a c, v = .slice a fs.length c := by
  rcases h with ⟨a, c, rfl, rfl⟩ | ⟨b, c, rfl, _⟩
  · exact ⟨_, _, rfl⟩
  · exact ⟨_, _, rfl⟩
theorem ReadsFields.at_ {w : World} {a : Option Addr} {n c : Nat} {fs : List F} (h : ReadsFields w (.slice a n c) fs) (hn : 0 < fs.length) : ∃ b, a = some ⟨b, 0, none⟩ ∧ b < w.heap.size ∧ ∀ i (hi : i < fs.length), ∃ a' c',
    w.cell? ⟨b, i * 2, none⟩ = some (.int .i64 fs[i].1) ∧ w.cell? ⟨b, i * 2 + 1, none⟩ = some (.slice a' fs[i].2.2.length c') ∧ fs[i].2.1 = .slice a' fs[i].2.2.length c' ∧ Reads .u8 w fs[i].2.1 fs[i].2.2 := by
  rcases h with ⟨a', c', _, rfl⟩ | ⟨b, c', e, h⟩
  · simp at hn
  · cases e
    refine ⟨b, rfl, World.block_lt_of_cell? w _ (h 0 hn).1, fun i hi => ?_⟩
    obtain ⟨h1, h2, h3⟩ := h i hi
    rw [List.getElem?_eq_getElem hi, Option.getD_some] at h1 h2 h3
    obtain ⟨a', c', e⟩ := Reads.form_ h3
    exact ⟨a', c', h1, by rw [h2, e], e, h3⟩
theorem Reads.below_ {k : IntKind} {w w' : World} {v : Value} {zs : List Int} (h : Reads k w v zs) (hm : Below w.heap.size w w') : Reads k w' v zs := h.mod (S := fun _ => False) (Mod.of_same hm) (by simp)
theorem ReadsFields.below_ {w w' : World} {v : Value} {fs : List F} (h : ReadsFields w v fs) (hm : Below w.heap.size w w') : ReadsFields w' v fs := by
  rcases h with h | ⟨b, c, e, h⟩
  · exact .inl h
  · exact .inr ⟨b, c, e, fun i hi => ⟨(Mod.of_same (S := fun _ => False) hm).cell (by simp) (h i hi).1, (Mod.of_same (S := fun _ => False) hm).cell (by simp) (h i hi).2.1, Reads.below_ (h i hi).2.2 hm⟩⟩

def rightL : Int → Int → List F → Bool
  | _, _, [] => true
  | l, r, f :: fs => decide (l < f.1) && decide (f.1 ≤ 200) && decide ((f.2.2.length : Int) ≤ r) && rightL f.1 (r - f.2.2.length) fs

set_option maxHeartbeats 1000000 in
theorem Right_yes (v : Value) (fs : List F) (w : World) (h : ReadsFields w v fs) (hl : fs.length ≤ 64) (hr : rightL 0 16384 fs = true) :
    Calls Tryz.prog 196 #[v] w fun e w' => e = .returned (.bool true) ∧ Below w.heap.size w w' := by
  obtain ⟨a, c, e⟩ := h.form_
  subst e
  have hlI : (fs.length : Int) ≤ 64 := by omega
  have HR := Lib.hid h
  have HR0 := Lib.hid hr
  clear h hr
  go_enter Tryz.func196, Tryz.ntmps196
  go_wp2_with fail
  go_loopw [3, 4, 9] (fun l r i wr => ∃ (k : Nat) (l0 r0 : Int), k ≤ fs.length ∧ l = .int .i64 l0 ∧ r = .int .i64 r0 ∧ i = .int .i64 k ∧ 0 ≤ r0 ∧ r0 ≤ 16384 ∧ Hid (rightL l0 r0 (fs.drop k) = true) ∧ Below w.heap.size w wr) (fun _ _ i _ => fs.length - (intOf i).toNat)
  case atStart => exact ⟨0, 0, 16384, Nat.zero_le _, rfl, rfl, rfl, by omega, by omega, HR0.out, Below.refl _ _⟩
  case round =>
    obtain ⟨k, l0, r0, hk, rfl, rfl, rfl, hr0, hr1, HL, hb⟩ := hrel
    obtain ⟨wo, rfl⟩ : ∃ wo : World, wo = wr := ⟨_, rfl⟩
    by_cases hlt : k < fs.length
    · have hltI : (k : Int) < fs.length := by omega
      obtain ⟨b, rfl, hbl, hat⟩ := HR.out.at_ (by omega)
      obtain ⟨a', c', h1, h2, _, _⟩ := hat k hlt
      clear hat
      have hd := HL.out
      rw [List.drop_eq_getElem_cons hlt, rightL, Bool.and_eq_true, Bool.and_eq_true, Bool.and_eq_true, decide_eq_true_eq, decide_eq_true_eq, decide_eq_true_eq] at hd
      obtain ⟨⟨⟨d1, d2⟩, d3⟩, d4⟩ := hd
      have HN := Lib.hid d4
      have hm : Mod (fun _ => False) w wo := Mod.of_same hb
      have g1 := hm.cell (by simp) h1
      have g2 := hm.cell (by simp) h2
      clear hm h1 h2 d4 HL
      generalize fs[k].1 = tg at *
      generalize fs[k].2.2.length = m at *
      have hw1 : IntKind.i64.wrap (r0 - (m : Int)) = r0 - m := IntWalk.i64_in _ (by omega)
      go_wp2_with fail
      have hW : (wo.alloc (.cells #[.int .i64 tg, .slice a' m c'] 141)).heap[wo.heap.size]? = some (.cells #[.int .i64 tg, .slice a' m c'] 141) := World.alloc_heap_new wo _
      obtain ⟨hc0, hc1, -, -⟩ := pair_cells_ hW
      have hb2 : Below w.heap.size w (wo.alloc (.cells #[.int .i64 tg, .slice a' m c'] 141)) := hb.alloc hb.size _
      generalize wo.alloc (.cells #[.int .i64 tg, .slice a' m c'] 141) = W1 at *
      clear hW
      go_quiet (fail)
      go_wp2_with fail
      exact ⟨⟨k + 1, tg, r0 - m, by omega, rfl, rfl, by simp, by omega, by omega, HN.out, below_drewN hb2 _⟩, by simp [intOf]; omega⟩
    · go_wp2_with fail
      go_ret
      exact ⟨rfl, hb⟩
end Resp
end Go.Proofs.YtdfmgneicdpjmaaGreat
