import Derived.Test.YtdfmgneicdpjmaaGreatM01
import Derived.BigQuiet
import Derived.WalkSmall
import Derived.Deep.RegionHeld3
import Derived.Deep.AppendLies
/- Lists of fields: field.Right where it says yes. -/
namespace Go.Proofs.YtdfmgneicdpjmaaGreat
open Go.RowKit Go.Shelf
set_option linter.unusedVariables false
set_option linter.unusedSimpArgs false
set_option maxRecDepth 100000
namespace Resp

/-- A field: its tag, its value, the value's bytes. -/
abbrev F := Int × Value × List Int
def fNo : F := (0, .slice none 0 0, [])
def ReadsFields (w : World) (v : Value) (fs : List F) : Prop :=
  (∃ a cap, v = .slice a 0 cap ∧ fs = []) ∨ ∃ b cap, v = .slice (some ⟨b, 0, none⟩) fs.length cap ∧ ∀ i, i < fs.length →
    w.cell? ⟨b, i * 2, none⟩ = some (.int .i64 (fs[i]?.getD fNo).1) ∧ w.cell? ⟨b, i * 2 + 1, none⟩ = some (fs[i]?.getD fNo).2.1 ∧ Reads .u8 w (fs[i]?.getD fNo).2.1 (fs[i]?.getD fNo).2.2
theorem Reads.form_ {k : IntKind} {w : World} {v : Value} {zs : List Int} (h : Reads k w v zs) : ∃ a c, v = .slice a zs.length c := by
  rcases h with ⟨a, c, rfl, rfl⟩ | ⟨b, o, c, rfl, _⟩
  · exact ⟨_, _, rfl⟩
  · exact ⟨_, _, rfl⟩
theorem ReadsFields.form_ {w : World} {v : Value} {fs : List F} (h : ReadsFields w v fs) : ∃ a c, v = .slice a fs.length c := by
  rcases h with ⟨a, c, rfl, rfl⟩ | ⟨b, c, rfl, _⟩
  · exact ⟨_, _, rfl⟩
  · exact ⟨_, _, rfl⟩
theorem ReadsFields.at_ {w : World} {a : Option Addr} {n c : Nat} {fs : List F} (h : ReadsFields w (.slice a n c) fs) (hn : 0 < fs.length) : ∃ b, a = some ⟨b, 0, none⟩ ∧ b < w.heap.size ∧ ∀ i (hi : i < fs.length), ∃ a' c',
    w.cell? ⟨b, i * 2, none⟩ = some (.int .i64 fs[i].1) ∧ w.cell? ⟨b, i * 2 + 1, none⟩ = some (.slice a' fs[i].2.2.length c') ∧ fs[i].2.1 = .slice a' fs[i].2.2.length c' ∧ Reads .u8 w fs[i].2.1 fs[i].2.2 := by
  rcases h with ⟨a', c', _, rfl⟩ | ⟨b, c', e, h⟩
  · simp at hn
  · cases e
    refine ⟨b, rfl, World.block_lt_of_cell? w _ (h 0 hn).1, fun i hi => ?_⟩
    obtain ⟨h1, h2, h3⟩ := h i hi
    rw [List.getElem?_eq_getElem hi, Option.getD_some] at h1 h2 h3
    obtain ⟨a', c', e⟩ := Reads.form_ h3
    exact ⟨a', c', h1, by rw [h2, e], e, h3⟩
theorem Reads.below_ {k : IntKind} {w w' : World} {v : Value} {zs : List Int} (h : Reads k w v zs) (hm : Below w.heap.size w w') : Reads k w' v zs := h.mod (S := fun _ => False) (Mod.of_same hm) (by simp)
theorem ReadsFields.below_ {w w' : World} {v : Value} {fs : List F} (h : ReadsFields w v fs) (hm : Below w.heap.size w w') : ReadsFields w' v fs := by
  rcases h with h | ⟨b, c, e, h⟩
  · exact .inl h
  · exact .inr ⟨b, c, e, fun i hi => ⟨(Mod.of_same (S := fun _ => False) hm).cell (by simp) (h i hi).1, (Mod.of_same (S := fun _ => False) hm).cell (by simp) (h i hi).2.1, Reads.below_ (h i hi).2.2 hm⟩⟩

def rightL : Int → Int → List F → Bool
  | _, _, [] => true
  | l, r, f :: fs => decide (l < f.1) && decide (f.1 ≤ 200) && decide ((f.2.2.length : Int) ≤ r) && rightL f.1 (r - f.2.2.length) fs

set_option maxHeartbeats 1000000 in
theorem Right_yes (v : Value) (fs : List F) (w : World) (h : ReadsFields w v fs) (hl : fs.length ≤ 64) (hr : rightL 0 16384 fs = true) :
    Calls Tryz.prog 196 #[v] w fun e w' => e = .returned (.bool true) ∧ Below w.heap.size w w' := by
  obtain ⟨a, c, e⟩ := h.form_
  subst e
  have hlI : (fs.length : Int) ≤ 64 := by omega
  have HR := Lib.hid h
  have HR0 := Lib.hid hr
  clear h hr
  go_enter Tryz.func196, Tryz.ntmps196
  go_wp2_with fail
  go_loopw [3, 4, 9] (fun l r i wr => ∃ (k : Nat) (l0 r0 : Int), k ≤ fs.length ∧ l = .int .i64 l0 ∧ r = .int .i64 r0 ∧ i = .int .i64 k ∧ 0 ≤ r0 ∧ r0 ≤ 16384 ∧ Hid (rightL l0 r0 (fs.drop k) = true) ∧ Below w.heap.size w wr) (fun _ _ i _ => fs.length - (intOf i).toNat)
  case atStart => exact ⟨0, 0, 16384, Nat.zero_le _, rfl, rfl, rfl, by omega, by omega, HR0.out, Below.refl _ _⟩
  case round =>
    obtain ⟨k, l0, r0, hk, rfl, rfl, rfl, hr0, hr1, HL, hb⟩ := hrel
    obtain ⟨wo, rfl⟩ : ∃ wo : World, wo = wr := ⟨_, rfl⟩
    by_cases hlt : k < fs.length
    · have hltI : (k : Int) < fs.length := by omega
      obtain ⟨b, rfl, hbl, hat⟩ := HR.out.at_ (by omega)
      obtain ⟨a', c', h1, h2, _, _⟩ := hat k hlt
      clear hat
      have hd := HL.out
      rw [List.drop_eq_getElem_cons hlt, rightL, Bool.and_eq_true, Bool.and_eq_true, Bool.and_eq_true, decide_eq_true_eq, decide_eq_true_eq, decide_eq_true_eq] at hd
      obtain ⟨⟨⟨d1, d2⟩, d3⟩, d4⟩ := hd
      have HN := Lib.hid d4
      have hm : Mod (fun _ => False) w wo := Mod.of_same hb
      have g1 := hm.cell (by simp) h1
      have g2 := hm.cell (by simp) h2
      clear hm h1 h2 d4 HL
      generalize fs[k].1 = tg at *
      generalize fs[k].2.2.length = m at *
      have hw1 : IntKind.i64.wrap (r0 - (m : Int)) = r0 - m := IntWalk.i64_in _ (by omega)
      go_wp2_with fail
      have hW : (wo.alloc (.cells #[.int .i64 tg, .slice a' m c'] 141)).heap[wo.heap.size]? = some (.cells #[.int .i64 tg, .slice a' m c'] 141) := World.alloc_heap_new wo _
      obtain ⟨hc0, hc1, -, -⟩ := pair_cells_ hW
      have hb2 : Below w.heap.size w (wo.alloc (.cells #[.int .i64 tg, .slice a' m c'] 141)) := hb.alloc hb.size _
      generalize wo.alloc (.cells #[.int .i64 tg, .slice a' m c'] 141) = W1 at *
      clear hW
      go_quiet (fail)
      go_wp2_with fail
      exact ⟨⟨k + 1, tg, r0 - m, by omega, rfl, rfl, by simp, by omega, by omega, HN.out, below_drewN hb2 _⟩, by simp [intOf]; omega⟩
    · go_wp2_with fail
      go_ret
      exact ⟨rfl, hb⟩
end Resp
end Go.Proofs.YtdfmgneicdpjmaaGreat

/- field.Write of right lists of fields, none of them empty. -/
namespace Go.Proofs.YtdfmgneicdpjmaaGreat
open Go.RowKit Go.Shelf
set_option linter.unusedVariables false
set_option linter.unusedSimpArgs false
set_option maxRecDepth 100000
namespace Resp

def fieldBytes (f : F) : List Int := f.1 :: (numBytes f.2.2.length ++ f.2.2)
def flat (fs : List F) : List Int := fs.flatMap fieldBytes
theorem flat_take {fs : List F} {k : Nat} (hk : k < fs.length) : flat (fs.take (k + 1)) = flat (fs.take k) ++ fieldBytes fs[k] := by
  rw [flat, List.take_succ_eq_append_getElem hk, List.flatMap_append]
  simp [flat]
theorem u8s_append (a b : List Int) : u8s (a ++ b) = u8s a ++ u8s b := by simp [u8s]
theorem u8s_cons (a : Int) (b : List Int) : u8s (a :: b) = [.int .u8 a] ++ u8s b := by simp [u8s]
theorem u8s_length (a : List Int) : (u8s a).length = a.length := by simp [u8s]
theorem u8s_one (a : List Int) : ∀ u ∈ u8s a, u.oneCell' = true := by
  intro u hu
  obtain ⟨j, _, rfl⟩ := List.mem_map.1 hu
  rfl
theorem Reads.lies_ {w : World} {v : Value} {zs : List Int} (h : Reads .u8 w v zs) (h0 : 0 < zs.length) : ∃ ad c, v = .slice (some ad) zs.length c ∧ ad.block < w.heap.size ∧ ∀ (w' : World), Below w.heap.size w w' → ∀ (j : Nat) (u : Value), (u8s zs)[j]? = some u → w'.cell? (ad.add j) = some u := by
  rcases h with ⟨a, c, rfl, rfl⟩ | ⟨b, o, c, rfl, hl, hc⟩
  · simp at h0
  · refine ⟨⟨b, o, none⟩, c, rfl, World.block_lt_of_cell? w ⟨b, o + 0, none⟩ (hc 0 h0), fun w' hm j u hu => ?_⟩
    have hj : j < zs.length := by
      rcases Nat.lt_or_ge j zs.length with h | h
      · exact h
      · rw [List.getElem?_eq_none (by simpa [u8s] using h)] at hu; cases hu
    have h1 := (Mod.of_same (S := fun _ => False) hm).cell (by simp) (hc j hj)
    have e : Value.int .u8 (zs[j]?.getD 0) = u := by
      rw [u8s, List.getElem?_map, List.getElem?_eq_getElem hj] at hu
      rw [List.getElem?_eq_getElem hj]
      simpa using hu
    rw [← e]
    have hadd : (⟨b, o, none⟩ : Addr).add j = ⟨b, o + j, none⟩ := by unfold Addr.add; split <;> simp_all
    rw [hadd]; exact h1

theorem own_other_ {W : World} {base : Nat} {e : TypeId} {size : Nat} {v : Value} {k : Nat} {xs : List Value} (h : W.ownsRow base e size v k xs) {B : Nat} {cs : Array Value} {t : TypeId} {fr : Nat × Nat} (hB : W.heap[B]? = some (.cells cs t fr)) (ht : ¬ e = t) : ¬ some B = v.ownBlock := by
  intro hg
  rcases h.2 with ⟨rfl, rfl⟩ | ⟨g', cap, cur, rfl, hb, hgg, rest⟩
  · cases hg
  · cases hg
    rw [hB] at hgg
    cases hgg
    exact ht rfl
theorem own_step_ {a b c : World} {r : Option Nat} {x n y H : Nat} (h : Mod (fun k => some k = r) a b) (h2 : Mod (fun k => some k = (Value.slice (some ⟨x, 0, none⟩) n y).ownBlock) b c) (ha : r = some x ∨ x = H) (hH : a.heap.size ≤ H) : Mod (fun k => some k = r) a c := by
  refine mod_trans_up_ h h2 (fun k hk e => ?_)
  rcases ha with h | h
  · exact e.trans h.symm
  · have e2 : k = x := by simpa [Value.ownBlock] using e
    omega
set_option maxHeartbeats 2000000 in
theorem Write_yes (v : Value) (fs : List F) (w : World) (h : ReadsFields w v fs) (hl : fs.length ≤ 64) (hr : rightL 0 16384 fs = true) (hB : ∀ f ∈ fs, 0 ≤ f.1 ∧ f.1 ≤ 200 ∧ 0 < f.2.2.length ∧ f.2.2.length ≤ 4096) :
    Calls Tryz.prog 152 #[v] w fun e w' => ∃ v', e = .returned (.tuple #[v', .int .i64 0]) ∧ w'.ownsRow w.heap.size 5 1 v' (flat fs).length (u8s (flat fs)) ∧ Below w.heap.size w w' := by
  obtain ⟨i0, hi, hz0, hz1, hz2⟩ := info_parts infoByte
  obtain ⟨a, c, e⟩ := ReadsFields.form_ h
  subst e
  have hlI : (fs.length : Int) ≤ 64 := by omega
  have HR := Lib.hid h
  have HR0 := Lib.hid hr
  have HBF := Lib.hid hB
  clear h hr hB
  go_enter Tryz.func152, Tryz.ntmps152
  go_wp2_with fail
  refine (Right_yes _ fs _ HR.out hl HR0.out).mono ?_; rintro e wa ⟨rfl, hba⟩
  go_wp2_with fail
  go_loopw [4, 12] (fun d i wr => ∃ (k n : Nat) (ad : Option Addr) (cd : Nat), k ≤ fs.length ∧ d = .slice ad n cd ∧ i = .int .i64 k ∧ n ≤ k * 4106 ∧ Hid (wr.ownsRow w.heap.size 5 1 (.slice ad n cd) n (u8s (flat (fs.take k)))) ∧ Below w.heap.size w wr) (fun _ i _ => fs.length - (intOf i).toNat)
  case atStart => exact ⟨0, 0, none, 0, Nat.zero_le _, rfl, rfl, by omega, owns_nil _ _ _ _, hba⟩
  case round =>
    clear hba
    obtain ⟨k, n, ad, cd, hk, rfl, rfl, hn, HO, hb⟩ := hrel
    obtain ⟨wo, rfl⟩ : ∃ wo : World, wo = wr := ⟨_, rfl⟩
    by_cases hlt : k < fs.length
    · have hltI : (k : Int) < fs.length := by omega
      obtain ⟨b, rfl, hbl, hat⟩ := ReadsFields.at_ HR.out (by omega)
      obtain ⟨a', c', h1, h2, hv, hrd⟩ := hat k hlt
      clear hat
      obtain ⟨t0, t1, m0, m1⟩ := HBF.out fs[k] (List.getElem_mem hlt)
      obtain ⟨av, cv, hv2, hav, hnw⟩ := Reads.lies_ hrd m0
      rw [hv] at hv2
      have hv3 : a' = some av ∧ c' = cv := by simpa using hv2
      obtain ⟨rfl, rfl⟩ := hv3
      have HT := Lib.hid (flat_take hlt)
      have HNW := Lib.hid hnw
      have hzl := numBytes_length (x := fs[k].2.2.length) (by omega)
      have hm : Mod (fun _ => False) w wo := Mod.of_same hb
      have g1 := hm.cell (by simp) h1
      have g2 := hm.cell (by simp) h2
      have hs9 := hzl.2
      have HZL := Lib.hid hzl.1
      clear hm h1 h2 hv hrd hnw hv2 hzl
      rw [fieldBytes] at HT
      generalize fs[k].1 = tg at *
      generalize fs[k].2.2 = bs at *
      generalize hmL : bs.length = m at *
      have HML := Lib.hid hmL
      clear hmL
      have hw2 : IntKind.u64.wrap (m : Int) = (m : Int) := by rw [IntKind.wrap_u64]; omega
      have hw1 : IntKind.u8.wrap tg = tg := by rw [IntKind.wrap_u8]; omega
      go_wp2_with fail
      have hW : (wo.alloc (.cells #[.int .i64 tg, .slice (some av) m c'] 141)).heap[wo.heap.size]? = some (.cells #[.int .i64 tg, .slice (some av) m c'] 141) := World.alloc_heap_new wo _
      obtain ⟨hc0, hc1, -, -⟩ := pair_cells_ hW
      have hbW : Below w.heap.size w (wo.alloc (.cells #[.int .i64 tg, .slice (some av) m c'] 141)) := hb.alloc hb.size _
      have hOW := HO.out.alloc (.cells #[.int .i64 tg, .slice (some av) m c'] 141)
      have HNE : Hid (¬ some wo.heap.size = (Value.slice ad n cd).ownBlock) := fun e => Nat.lt_irrefl _ (ownBlock_lt_ HO.out e.symm)
      generalize wo.alloc (.cells #[.int .i64 tg, .slice (some av) m c'] 141) = W1 at *
      generalize wo.heap.size = B at *
      have HOW := Lib.hid hOW
      have hszW := hbW.size
      have HBW := Lib.hid hbW
      have HHW := Lib.hid hW
      clear hW HO hb hOW hbW
      have HM64 : Hid (m < 18446744073709551616) := Lib.hid (by omega)
      have HN1 : Hid (n + 1 ≤ 1048576) := Lib.hid (by omega)
      go_region_held3 (fun W => W.cell? ⟨B, 0, none⟩ = some (.int .i64 tg) ∧ W.cell? ⟨B, 1, none⟩ = some (.slice (some av) m c'))
        (first | (with_reducible exact HK3.out) | (with_reducible exact HK2.out) | (with_reducible exact HK1.out) | go_keep)
        ((first
          | (refine step_append_lies _ (by rfl) _ _ _ (by rfl) w.heap.size 5 i0 _ 1 1 Tryz.underlying25 hi hz0 hz1 hz2 rfl (by omega) (.slice ad n cd) n _ (by rfl) (owns_up HOW.out (by repeat (first | exact Below.refl _ _ | refine below_alloc_ ?_ _ | refine below_drew_ ?_))) _ 1 1 [.int .u8 tg] (by rfl) (by rfl) (news_one_ (by simp)) (by simp [Value.oneCell']) (by omega) (by unfold maxLen; omega) (by omega) (by simp; try omega) _ (by rfl) ?_; intro x1 y1 w1 hown1 hgrow1 hat1 hlt1; have HO1 := Lib.hid hown1; have HM1 := Lib.hid ((Mod.of_same (S := fun k => some k = (Value.slice ad n cd).ownBlock) (w := W1) (by repeat (first | exact Below.refl _ _ | refine below_alloc_ ?_ _ | refine below_drew_ ?_))).trans (Mod.of_grownBy hgrow1)); have HK1 : Hid (w1.cell? ⟨B, 0, none⟩ = some (.int .i64 tg) ∧ w1.cell? ⟨B, 1, none⟩ = some (.slice (some av) m c')) := ⟨HM1.out.cell HNE.out hc0, HM1.out.cell HNE.out hc1⟩; have HA1 := Lib.hid hat1; have HZ1 := Lib.hid (Nat.le_trans hszW HM1.out.size); clear hown1 hgrow1 hat1)
          | (go_at_call 197; refine (Append_any m HM64.out w.heap.size (n + 1) (.slice (some ⟨x1, 0, none⟩) (n + 1) y1) (u8s (flat (fs.take k)) ++ [.int .u8 tg]) _ (by exact HO1.out) HN1.out (by exact HZ1.out)).mono ?_; rintro e w2 ⟨v2, rfl, hown2, hm2⟩; obtain ⟨x2, y2, e2⟩ := ownsRow_form hown2; subst e2; have HO2 := Lib.hid hown2; have HM2 := Lib.hid (own_step_ HM1.out (Mod.trans (Mod.of_same (by repeat (first | exact Below.refl _ _ | refine below_alloc_ ?_ _ | refine below_drew_ ?_))) hm2) HA1.out (by simp)); have HK2 : Hid (w2.cell? ⟨B, 0, none⟩ = some (.int .i64 tg) ∧ w2.cell? ⟨B, 1, none⟩ = some (.slice (some av) m c')) := ⟨HM2.out.cell HNE.out hc0, HM2.out.cell HNE.out hc1⟩; clear hown2 hm2)
          | (refine step_append_lies _ (by rfl) _ _ _ (by rfl) w.heap.size 5 i0 _ 1 1 Tryz.underlying25 hi hz0 hz1 hz2 rfl (by omega) (.slice x2 (n + 1 + sizeN m) y2) (n + 1 + sizeN m) _ (by rfl) (owns_up HO2.out (by repeat (first | exact Below.refl _ _ | refine below_alloc_ ?_ _ | refine below_drew_ ?_))) av m c' (u8s bs) (by rfl) (by rw [u8s_length, HML.out, Nat.mul_one]) (HNW.out _ (HBW.out.trans (HM2.out.below hszW (fun k hk e => by have := ownBlock_ge_ HOW.out e.symm; omega)))) (u8s_one _) (by omega) (by unfold maxLen; omega) (by omega) (by have := HM2.out.size; show w.heap.size ≤ w2.heap.size; omega) _ (by rfl) ?_; intro x3 y3 w3 hown3 hgrow3 hat3 hlt3; have HO3 := Lib.hid hown3; have HM3 := Lib.hid (Mod.of_grownBy hgrow3); have HK3 : Hid (w3.cell? ⟨B, 0, none⟩ = some (.int .i64 tg) ∧ w3.cell? ⟨B, 1, none⟩ = some (.slice (some av) m c')) := ⟨HM3.out.cell (own_other_ HO2.out (HM2.out.heap HHW.out HNE.out) (by decide)) HK2.out.1, HM3.out.cell (own_other_ HO2.out (HM2.out.heap HHW.out HNE.out) (by decide)) HK2.out.2⟩; clear hown3 hgrow3 hat3)))
      have hb2 : Below w.heap.size w w2 := HBW.out.trans (HM2.out.below hszW (fun k hk e => by have := ownBlock_ge_ HOW.out e.symm; omega))
      have HB3 : Hid (Below w.heap.size w w3) := hb2.trans (HM3.out.below hb2.size (fun k hk e => by have := ownBlock_ge_ HO2.out e.symm; omega))
      have hrow := HO3.out
      rw [show u8s (flat (fs.take k)) ++ [Value.int .u8 tg] ++ u8s (numBytes m) ++ u8s bs = u8s (flat (fs.take (k + 1))) by rw [HT.out, u8s_append, u8s_cons, u8s_append]; simp only [List.append_assoc]] at hrow
      have HROW := Lib.hid hrow
      clear hrow hb2 HK3 HK2 HK1
      have hn3 : n + 1 + sizeN m + m ≤ (k + 1) * 4106 := by omega
      generalize n + 1 + sizeN m + m = n3 at *
      go_wp2_with fail
      exact ⟨⟨k + 1, n3, _, _, by omega, rfl, by simp, hn3, HROW.out, HB3.out⟩, by simp [intOf]; omega⟩
    · go_wp2_with fail
      go_ret2
      refine ⟨_, rfl, ?_, hb⟩
      have hk2 : k = fs.length := by omega
      have h2 := HO.out
      rw [hk2, List.take_length] at h2
      have := h2.1
      simp [u8s] at this
      rw [this]; exact h2
end Resp
end Go.Proofs.YtdfmgneicdpjmaaGreat

/- response.right: no number below nought. -/
namespace Go.Proofs.YtdfmgneicdpjmaaGreat
open Go.RowKit Go.Shelf
set_option linter.unusedVariables false
set_option linter.unusedSimpArgs false
set_option maxRecDepth 100000
namespace Resp

theorem right1_any (z : Int) (w : World) : Calls Tryz.prog 268 #[.int .i64 z] w fun e w' => e = .returned (.bool (decide (z < 0))) ∧ w = w' := by
  go_enter Tryz.func268, Tryz.ntmps268
  go_wp2
  go_ret
  exact ⟨rfl, rfl⟩

theorem IndexFunc_none (v : Value) (zs : List Int) (w : World) (h : Reads .i64 w v zs) (hl : zs.length ≤ 1048576) (h0 : ∀ z ∈ zs, 0 ≤ z) :
    Calls Tryz.prog 324 #[v, .func (.func 268) #[] #[]] w fun e w' => e = .returned (.int .i64 (-1)) ∧ w = w' := by
  obtain ⟨a, c, e⟩ := Reads.form_ h
  subst e
  go_enter Tryz.func324, Tryz.ntmps324
  have HR := Lib.hid h
  have hlI : (zs.length : Int) ≤ 1048576 := by omega
  have H0 := Lib.hid h0
  clear h h0
  go_wp2_with fail
  go_loopw [8] (fun i wr => ∃ k : Nat, k ≤ zs.length ∧ i = .int .i64 k ∧ wr = w) (fun i _ => zs.length - (intOf i).toNat)
  case atStart => exact ⟨0, Nat.zero_le _, rfl, rfl⟩
  case round =>
    obtain ⟨k, hk, rfl, rfl⟩ := hrel
    by_cases hlt : k < zs.length
    · have hltI : (k : Int) < zs.length := by omega
      have hz := H0.out zs[k] (List.getElem_mem hlt)
      rcases HR.out with ⟨a2, c2, e2, e3⟩ | ⟨b, o, c2, e2, hl2, hc⟩
      · rw [e3] at hlt; simp at hlt
      · cases e2
        have hcell := hc k hlt
        rw [List.getElem?_eq_getElem hlt, Option.getD_some] at hcell
        clear hc
        generalize zs[k] = z at *
        have hzd : decide (z < 0) = false := by simp; omega
        go_wp2_with fail
        refine (right1_any z _).mono ?_; rintro e w' ⟨rfl, rfl⟩; rw [hzd]
        go_wp2_with fail
        exact ⟨⟨k + 1, by omega, by simp, by first | rfl | trivial⟩, by simp [intOf]; omega⟩
    · go_wp2_with fail
      go_ret
      exact ⟨rfl, rfl⟩
theorem right_yes (v : Value) (zs : List Int) (w : World) (h : Reads .i64 w v zs) (hl : zs.length ≤ 1048576) (h0 : ∀ z ∈ zs, 0 ≤ z) :
    Calls Tryz.prog 216 #[v] w fun e w' => e = .returned (.bool true) ∧ w = w' := by
  have hc : Calls Tryz.prog 267 #[v, .func (.func 268) #[] #[]] w fun e w' => e = .returned (.bool false) ∧ w = w' := by
    go_enter Tryz.func267, Tryz.ntmps267
    go_wp2_with fail
    refine (IndexFunc_none v zs _ h hl h0).mono ?_; rintro e w' ⟨rfl, rfl⟩
    go_wp2_with fail
    go_ret
    exact ⟨rfl, rfl⟩
  go_enter Tryz.func216, Tryz.ntmps216
  go_wp2_with fail
  refine hc.mono ?_; rintro e w' ⟨rfl, rfl⟩
  go_wp2_with fail
  go_ret
  exact ⟨rfl, rfl⟩
end Resp
end Go.Proofs.YtdfmgneicdpjmaaGreat
