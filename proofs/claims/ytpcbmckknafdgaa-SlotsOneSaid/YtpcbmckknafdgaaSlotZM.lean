/- The law SlotsOne: the walk. -/
import Derived.Test.YtpcbmckknafdgaaSlotZL
import Derived.Test.YtpcbmckknafdgaaSlotL
import Derived.BigRegion
import Derived.IntWalk
import Derived.Deep.Cut
namespace Go.Proofs.Ytpcbmckknafdgaa
open Go.RowKit Go.Shelf
set_option linter.unusedVariables false
set_option linter.unusedSimpArgs false
set_option maxRecDepth 100000
namespace Slot

abbrev MapOf (w : World) (B n : Nat) (D : DataW Unit) : Prop := w.ownsMap Try.prog 26 (plainElem Try.prog 3) B n D
abbrev RangeOf (w : World) (B r n : Nat) (D : DataW Unit) (left : Lit → Bool) (cnt : Nat) : Prop := w.ranges Try.prog 26 (plainElem Try.prog 3) B r n D left cnt
theorem map_mod {S : Nat → Prop} {w w' : World} {B n : Nat} {D : DataW Unit} (h : MapOf w B n D) (hm : Mod S w w') (hS : ¬ S B) : MapOf w' B n D := by
  obtain ⟨es, clock, hb, F, hs, hD⟩ := h
  exact ⟨es, clock, hm.heap hb hS, F, hs, hD⟩
theorem range_mod {S : Nat → Prop} {w w' : World} {B r n : Nat} {D : DataW Unit} {left : Lit → Bool} {cnt : Nat} (h : RangeOf w B r n D left cnt) (hm : Mod S w w') (hS : ¬ S B) (hr : ¬ S r) : RangeOf w' B r n D left cnt := by
  obtain ⟨es, clock, since, seen, c0, hb, F, hs, hD, h2, h3⟩ := h
  exact ⟨es, clock, since, seen, c0, hm.heap hb hS, F, hs, hD, hm.heap h2 hr, h3⟩
theorem zeroInt (w : World) : (zeroValue 3).run Try.prog w = .ok (.int .i64 0) w := by kernel_rfl
/-- What the map says at a reference. -/
theorem look_at {w : World} {B n : Nat} {D : DataW Unit} {f : R → Int} (h : MapOf w B n D) (hf : Holds D f) (a b : Int) (hr : RefWf (a, b)) :
    (Instr.lookup 37 (.map (some B)) (.agg #[.int .i64 a, .int .i64 b]) false).run Try.prog w = .ok (.int .i64 (f (a, b))) w := by
  obtain ⟨c, hrun, hat, _⟩ := h.lookup_int refLaw Try.underlying37 Try.underlying3 (zeroInt w) (keyRef a b hr)
  rw [← hf.look hr hat]; exact hrun
section
variable {P : Program} (w : World) {ops : Array Oper} {rest : List Oper} {o : Oper} {a : Act} {Q : Exit → Act → World → Prop}
/-- The step of a range over such a map. -/
theorem wpList_next_refs (hg : o.guard = none) (it : Operand) (hop : o.op = Op.next it false) (B r n : Nat) (D : DataW Unit) (f : R → Int) (left : Lit → Bool) (cnt : Nat) (hit : a.eval it = .pointer (some ⟨r, 0, none⟩)) (h : RangeOf w B r n D left cnt) (hf : Holds D f)
    (hDone : (∀ kl, left kl = false) → wpList Try.prog ops Q rest (a.put o.dst (.tuple #[.bool false])) w)
    (hMore : ∀ (x y : Int) (w' : World) (cnt' : Nat), RefWf (x, y) → left (keyL (x, y)) = true → RangeOf w' B r n D (fun z => left z && !z.sameKey (keyL (x, y))) cnt' → cnt' < cnt → w.grownBy w' (some r) →
      (Instr.entry (.pointer (some ⟨r, 0, none⟩))).run Try.prog w' = .ok (.tuple #[.agg #[.int .i64 x, .int .i64 y], .int .i64 (f (x, y))]) w' → wpList Try.prog ops Q rest (a.put o.dst (.tuple #[.bool true, .agg #[.int .i64 x, .int .i64 y], .int .i64 (f (x, y))])) w') :
    wpList Try.prog ops Q (o :: rest) a w :=
  wpList_next_ranges w hg it hop 26 refLaw (plainElem Try.prog 3) (fun r : R => .agg #[.int .i64 r.1, .int .i64 r.2]) (Value.int .i64) (fun key kl hkey => by obtain ⟨x, rfl, _⟩ := keyRef_inv hkey; exact ⟨x, rfl⟩) (fun v y hv => by obtain ⟨c, rfl, _⟩ := plainElem_int_inv Try.underlying3 hv; exact ⟨c, rfl⟩)
    B r n D left cnt hit h (fun _ => hDone) (fun x c kl y w' cnt' hkey hlk hv hat hrg hlt hgr hsz hen => by
      obtain ⟨x', ex, rfl, hwx⟩ := keyRef_inv hkey
      obtain ⟨x1, x2⟩ := x
      obtain ⟨y1, y2⟩ := x'
      simp at ex
      obtain ⟨rfl, rfl⟩ := ex
      obtain ⟨c', ec, rfl, hwc⟩ := plainElem_int_inv Try.underlying3 hv
      cases ec
      have e : c = f (x1, x2) := hf.look hwx (hat _)
      subst e
      exact hMore x1 x2 w' cnt' hwx hlk hrg hlt hgr hen)
end


set_option maxHeartbeats 16000000 in
theorem one_nil (a0 : Int) (h00 : 0 ≤ a0) (h01 : a0 ≤ 255) (a1 : Int) (h10 : 0 ≤ a1) (h11 : a1 ≤ 255)  (w : World)  :
    Calls Try.prog 5 #[.int .u8 a0, .int .u8 a1, .slice none 0 0] w fun e w' => e = .returned (.bool true) ∧ Below w.heap.size w w' := by
  have hmm := @run_makeMap Try.prog
  go_enter Try.func5, Try.ntmps5
  go_wp2_with fail
  refine (awake_any _).mono ?_; rintro e wa ⟨rfl, hba⟩
  go_wp2_with fail
  refine (sizes_any _ _ (by omega) (by omega) (by omega) (by omega) _).mono ?_; rintro e w' ⟨rfl, rfl⟩
  have hn0 : 0 ≤ a0 % 41 := by omega
  have hn1 : a0 % 41 ≤ 40 := by omega
  have hk1 : 1 ≤ 1 + a1 % 6 := by omega
  have hk2 : 1 + a1 % 6 ≤ 6 := by omega
  generalize a0 % 41 = ni at *
  generalize 1 + a1 % 6 = k at *
  obtain ⟨n, rfl⟩ := Int.eq_ofNat_of_zero_le hn0
  clear hn0 h00 h01 h10 h11
  go_wp2_with fail
  refine (New_yes n _ _ (by omega) (by omega)).mono ?_; rintro e wb ⟨rfl, hT, hBa⟩
  have hS := hba.trans (hBa.mono hba.size)
  have hsz := hba.size
  have hlt := hT.lt
  obtain ⟨p, hp⟩ : ∃ p, p = wa.heap.size + 1 := ⟨_, rfl⟩
  rw [← hp] at hT hlt ⊢
  have hsz' : w.heap.size ≤ p := by omega
  generalize wa.heap.size = q at *
  have hT' := hT.below ((Below.refl _ _).alloc (Nat.le_refl _) (.map #[] 0))
  have hS' := hS.alloc hS.size (.map #[] 0)
  have hO : MapOf (wb.alloc (.map #[] 0)) wb.heap.size 0 (.map []) := World.ownsMap_made _ _ _ _
  obtain ⟨B, hBe⟩ : ∃ B, B = wb.heap.size := ⟨_, rfl⟩
  have HP := Lib.hid (show w.heap.size ≤ q ∧ w.heap.size ≤ p ∧ p < B ∧ q < B from ⟨hsz, hsz', by omega, by omega⟩)
  rw [← hBe] at hO
  have HI := Lib.hid (show OneInv n (newT n k) (fun _ => 0) ∧ (newT n k).most = k from ⟨one_new n k, rfl⟩)
  have HH := Lib.hid (holds_nil (H := Unit))
  clear hT hS hba hBa hsz hp hsz' hlt
  have hmin : min (0 : Int) 200 = 0 := by decide

  go_wp2_with fail
  rw [← hBe]
  generalize wb.alloc (.map #[] 0) = wc at *
  clear hBe hmm
  go_loopw [53] (fun i wr => ∃ (j : Nat) (T : Tab) (D : DataW Unit) (f : R → Int), j ≤ 0 ∧ i = .int .i64 j ∧ TableAt wr p q n T ∧ MapOf wr B j D ∧ Hid (Holds D f) ∧ Hid (OneInv n T f ∧ T.most = k) ∧ Below w.heap.size w wr) (fun i _ => 0 - (intOf i).toNat)
  case atStart => exact ⟨0, _, _, _, Nat.zero_le _, rfl, hT', hO, HH, HI, hS'⟩
  case round =>
    clear hT' hO HH HI hS'
    obtain ⟨j, T, D, f, hj, rfl, hT, hO, HH, HI, hS⟩ := hrel
    by_cases hlt : j < 0
    · exact absurd hlt (by omega)
    · obtain rfl : j = 0 := by omega
      go_wp2_with fail
      go_ret
      exact ⟨rfl, hS⟩


set_option maxHeartbeats 16000000 in
theorem one_zero (a0 : Int) (h00 : 0 ≤ a0) (h01 : a0 ≤ 255) (a1 : Int) (h10 : 0 ≤ a1) (h11 : a1 ≤ 255) (x0 : Addr) (cap0 : Nat) (w : World) (hcm : cap0 ≤ maxLen) :
    Calls Try.prog 5 #[.int .u8 a0, .int .u8 a1, .slice (some x0) 0 cap0] w fun e w' => e = .returned (.bool true) ∧ Below w.heap.size w w' := by
  have hmm := @run_makeMap Try.prog
  go_enter Try.func5, Try.ntmps5
  go_wp2_with fail
  refine (awake_any _).mono ?_; rintro e wa ⟨rfl, hba⟩
  go_wp2_with fail
  refine (sizes_any _ _ (by omega) (by omega) (by omega) (by omega) _).mono ?_; rintro e w' ⟨rfl, rfl⟩
  have hn0 : 0 ≤ a0 % 41 := by omega
  have hn1 : a0 % 41 ≤ 40 := by omega
  have hk1 : 1 ≤ 1 + a1 % 6 := by omega
  have hk2 : 1 + a1 % 6 ≤ 6 := by omega
  generalize a0 % 41 = ni at *
  generalize 1 + a1 % 6 = k at *
  obtain ⟨n, rfl⟩ := Int.eq_ofNat_of_zero_le hn0
  clear hn0 h00 h01 h10 h11
  go_wp2_with fail
  refine (New_yes n _ _ (by omega) (by omega)).mono ?_; rintro e wb ⟨rfl, hT, hBa⟩
  have hS := hba.trans (hBa.mono hba.size)
  have hsz := hba.size
  have hlt := hT.lt
  obtain ⟨p, hp⟩ : ∃ p, p = wa.heap.size + 1 := ⟨_, rfl⟩
  rw [← hp] at hT hlt ⊢
  have hsz' : w.heap.size ≤ p := by omega
  generalize wa.heap.size = q at *
  have hT' := hT.below ((Below.refl _ _).alloc (Nat.le_refl _) (.map #[] 0))
  have hS' := hS.alloc hS.size (.map #[] 0)
  have hO : MapOf (wb.alloc (.map #[] 0)) wb.heap.size 0 (.map []) := World.ownsMap_made _ _ _ _
  obtain ⟨B, hBe⟩ : ∃ B, B = wb.heap.size := ⟨_, rfl⟩
  have HP := Lib.hid (show w.heap.size ≤ q ∧ w.heap.size ≤ p ∧ p < B ∧ q < B from ⟨hsz, hsz', by omega, by omega⟩)
  rw [← hBe] at hO
  have HI := Lib.hid (show OneInv n (newT n k) (fun _ => 0) ∧ (newT n k).most = k from ⟨one_new n k, rfl⟩)
  have HH := Lib.hid (holds_nil (H := Unit))
  clear hT hS hba hBa hsz hp hsz' hlt
  have hmin : min (0 : Int) 200 = 0 := by decide

  go_wp2_with fail
  rw [← hBe]
  generalize wb.alloc (.map #[] 0) = wc at *
  clear hBe hmm
  go_loopw [53] (fun i wr => ∃ (j : Nat) (T : Tab) (D : DataW Unit) (f : R → Int), j ≤ 0 ∧ i = .int .i64 j ∧ TableAt wr p q n T ∧ MapOf wr B j D ∧ Hid (Holds D f) ∧ Hid (OneInv n T f ∧ T.most = k) ∧ Below w.heap.size w wr) (fun i _ => 0 - (intOf i).toNat)
  case atStart => exact ⟨0, _, _, _, Nat.zero_le _, rfl, hT', hO, HH, HI, hS'⟩
  case round =>
    clear hT' hO HH HI hS'
    obtain ⟨j, T, D, f, hj, rfl, hT, hO, HH, HI, hS⟩ := hrel
    by_cases hlt : j < 0
    · exact absurd hlt (by omega)
    · obtain rfl : j = 0 := by omega
      go_wp2_with fail
      go_ret
      exact ⟨rfl, hS⟩


set_option maxHeartbeats 16000000 in
theorem one_some (a0 : Int) (h00 : 0 ≤ a0) (h01 : a0 ≤ 255) (a1 : Int) (h10 : 0 ≤ a1) (h11 : a1 ≤ 255) (b off len cap : Nat) (z : List Int) (w : World) (hcw : ∀ i (w' : World), Below w.heap.size w w' → i < len → w'.cell? ⟨b, off + i, none⟩ = some (.int .u8 (z.getD i 0))) (hxb : ∀ i, i < len → 0 ≤ z.getD i 0 ∧ z.getD i 0 < 256) (hl : len ≤ cap) (hpos : 1 ≤ len) (hm : cap ≤ maxLen) :
    Calls Try.prog 5 #[.int .u8 a0, .int .u8 a1, .slice (some ⟨b, off, none⟩) len cap] w fun e w' => e = .returned (.bool true) ∧ Below w.heap.size w w' := by
  have hmm := @run_makeMap Try.prog
  go_enter Try.func5, Try.ntmps5
  go_wp2_with fail
  refine (awake_any _).mono ?_; rintro e wa ⟨rfl, hba⟩
  go_wp2_with fail
  refine (sizes_any _ _ (by omega) (by omega) (by omega) (by omega) _).mono ?_; rintro e w' ⟨rfl, rfl⟩
  have hn0 : 0 ≤ a0 % 41 := by omega
  have hn1 : a0 % 41 ≤ 40 := by omega
  have hk1 : 1 ≤ 1 + a1 % 6 := by omega
  have hk2 : 1 + a1 % 6 ≤ 6 := by omega
  generalize a0 % 41 = ni at *
  generalize 1 + a1 % 6 = k at *
  obtain ⟨n, rfl⟩ := Int.eq_ofNat_of_zero_le hn0
  clear hn0 h00 h01 h10 h11
  go_wp2_with fail
  refine (New_yes n _ _ (by omega) (by omega)).mono ?_; rintro e wb ⟨rfl, hT, hBa⟩
  have hS := hba.trans (hBa.mono hba.size)
  have hsz := hba.size
  have hlt := hT.lt
  obtain ⟨p, hp⟩ : ∃ p, p = wa.heap.size + 1 := ⟨_, rfl⟩
  rw [← hp] at hT hlt ⊢
  have hsz' : w.heap.size ≤ p := by omega
  generalize wa.heap.size = q at *
  have hT' := hT.below ((Below.refl _ _).alloc (Nat.le_refl _) (.map #[] 0))
  have hS' := hS.alloc hS.size (.map #[] 0)
  have hO : MapOf (wb.alloc (.map #[] 0)) wb.heap.size 0 (.map []) := World.ownsMap_made _ _ _ _
  obtain ⟨B, hBe⟩ : ∃ B, B = wb.heap.size := ⟨_, rfl⟩
  have HP := Lib.hid (show w.heap.size ≤ q ∧ w.heap.size ≤ p ∧ p < B ∧ q < B from ⟨hsz, hsz', by omega, by omega⟩)
  rw [← hBe] at hO
  have HI := Lib.hid (show OneInv n (newT n k) (fun _ => 0) ∧ (newT n k).most = k from ⟨one_new n k, rfl⟩)
  have HH := Lib.hid (holds_nil (H := Unit))
  clear hT hS hba hBa hsz hp hsz' hlt
  have HCW := Lib.hid hcw
  have HXB := Lib.hid hxb
  clear hcw hxb
  obtain ⟨m, hmin, hml, hm2⟩ : ∃ m : Nat, min (len : Int) 200 = m ∧ m ≤ len ∧ m ≤ 200 := ⟨(min (len : Int) 200).toNat, by omega, by omega, by omega⟩
  have hmc : m ≤ cap := by omega

  go_wp2_with fail
  rw [← hBe]
  generalize wb.alloc (.map #[] 0) = wc at *
  clear hBe hmm
  go_loopw [53] (fun i wr => ∃ (j : Nat) (T : Tab) (D : DataW Unit) (f : R → Int), j ≤ m ∧ i = .int .i64 j ∧ TableAt wr p q n T ∧ MapOf wr B j D ∧ Hid (Holds D f) ∧ Hid (OneInv n T f ∧ T.most = k) ∧ Below w.heap.size w wr) (fun i _ => m - (intOf i).toNat)
  case atStart => exact ⟨0, _, _, _, Nat.zero_le _, rfl, hT', hO, HH, HI, hS'⟩
  case round =>
    clear hT' hO HH HI hS'
    obtain ⟨j, T, D, f, hj, rfl, hT, hO, HH, HI, hS⟩ := hrel
    by_cases hlt : j < m
    · have hltI : (j : Int) < m := by omega
      obtain ⟨wo, rfl⟩ : ∃ wo : World, wo = wr := ⟨_, rfl⟩
      have hcj := HCW.out j wo hS (by omega)
      have hxj := HXB.out j (by omega)
      generalize z.getD j 0 = x at *
      have hv := hT.2.1
      rcases step_ways' n T x with hE | ⟨r1, r2, hlv, hE⟩
      · by_cases hf : T.free = []
        · obtain ⟨e0, htk⟩ := (show True ∧ takeT T = (T, (0, 0), 4) from ⟨trivial, takeT_nil hf⟩)
          rw [htk] at hE
          have EE := Lib.hid hE
          have hfl : T.free.length = 0 := by rw [hf]; rfl
          clear hE htk e0 hf
          go_wp2_with fail
          refine (Step_any p q n T x hxj _ hT).mono ?_; rintro e w2 ⟨rfl, hT2, hM2⟩
          rw [EE.out] at hT2 ⊢
          dsimp only at hT2 ⊢
          have bl2 : Below w2.heap.size w2 (w2.alloc (.cells #[.int .i64 0, .int .i64 0] 26)) := (Below.refl _ w2).alloc (Nat.le_refl _) _
          have hR3 : RefAt (w2.alloc (.cells #[.int .i64 0, .int .i64 0] 26)) w2.heap.size (0, 0) := World.alloc_heap_new w2 _
          have hT3 := hT2.below bl2
          have hS3 := (hS.trans (hM2.below hS.size (fun k hk e => by have := HP.out; omega))).trans (bl2.mono (hM2.below hS.size (fun k hk e => by have := HP.out; omega) |> fun h => Nat.le_trans hS.size h.size))
          have hO3 : MapOf (w2.alloc (.cells #[.int .i64 0, .int .i64 0] 26)) B j D := map_mod (map_mod hO hM2 (by have := HP.out; omega)) (Mod.of_same (S := fun _ => False) bl2) (by simp)
          have d0 := hR3.c0
          have d1 := hR3.c1
          clear hT hS hO hM2 hT2 bl2 hR3
          go_upto_region 13 with (fail)
          generalize (w2.alloc (.cells #[.int .i64 0, .int .i64 0] 26)) = W3 at *
          generalize w2.heap.size = B3 at *
          go_wp2_with fail
          refine (Free_any p q n T _ hT3).mono ?_; rintro e w4 ⟨v, rfl, hr4, hb4⟩
          rw [hfl] at hr4
          obtain ⟨a4, c4, e⟩ := ownsRow_val hr4
          subst e
          have hT4 := hT3.below hb4
          have hS4 := hS3.trans (hb4.mono hS3.size)
          have hO4 : MapOf w4 B (j + 1) D := (map_mod hO3 (Mod.of_same (S := fun _ => False) hb4) (by simp)).mono (Nat.le_succ j)
          clear hT3 hS3 hO3 hr4 hb4 d0 d1 hfl
          obtain ⟨T4, D4, f4, hT4, hO4, HH4, HI4⟩ : ∃ T4 D4 f4, TableAt w4 p q n T4 ∧ MapOf w4 B (j + 1) D4 ∧ Hid (Holds D4 f4) ∧ Hid (OneInv n T4 f4 ∧ T4.most = k) := ⟨_, _, _, hT4, hO4, HH, HI⟩
          clear HI HH EE
          have hvv := hT4.2.1
          have hwf : ∀ r ∈ refsT n T4, RefWf r := fun r hr => (ref_wf hvv hr).1
          have hhas : ∀ r ∈ refsT n T4, Maps.has D4 (keyL r) = true := fun r hr => HH4.out.has (hwf r hr) (by rw [(HI4.out.1.live r).2 hr]; decide)
          have HW := Lib.hid hwf
          have HHAS := Lib.hid hhas
          clear hwf hhas hvv
          go_wp2_with (first | (at_range; refine wpList_range_own _ rfl _ 37 rfl 26 3 refLaw Try.underlying37 _ B (j + 1) _ rfl hO4 ?_; intro w5 hrg hg5 hs5) | go_in)
          have hT5 := hT4.mod (Mod.of_grownBy hg5) (by simp) (by simp)
          have hS5 := hS4.trans ((Mod.of_grownBy hg5).below hS4.size (fun g hg e => by simp at e))
          have hBw : B < w4.heap.size := hO4.lt
          generalize hRb : w4.heap.size = Rb at *
          have HRB := Lib.hid (show B < Rb ∧ w.heap.size ≤ Rb from ⟨hBw, by have := hS4.size; omega⟩)
          clear hT4 hO4 hS4 hg5 hs5 hBw hRb
          go_frame
          go_loopw [17] (fun v wr => ∃ (left : Lit → Bool) (cnt : Nat), v = .int .i64 (metL (refsT n T4) left : Nat) ∧ RangeOf wr B Rb (j + 1) D4 left cnt ∧ TableAt wr p q n T4 ∧ Below w.heap.size w wr) (fun _ wr => wr.rangeLeft B Rb)
          case atStart => exact ⟨_, _, by rw [metL_start HHAS.out]; rfl, hrg, hT5, hS5⟩
          case round =>
            clear hrg hT5 hS5
            obtain ⟨left, cnt, rfl, hrg, hT5, hS5⟩ := hrel
            obtain ⟨w5', rfl⟩ : ∃ w5' : World, w5' = wr := ⟨_, rfl⟩
            have hml5 : (metL (refsT n T4) left : Nat) ≤ n := Nat.le_trans (List.length_filter_le _ _) (refs_le n T4)
            go_wp2_with (first | (at_next; refine wpList_next_refs _ rfl _ rfl B Rb (j + 1) D4 f4 left cnt rfl hrg HH4.out ?_ ?_) | go_in)
            · intro hl0
              have hme := metL_end (l := refsT n T4) hl0
              rw [hme]
              have hv4 := hT5.2.1
              have hfl := free_le hv4
              have hrl := refs_le n T4
              have hO5 : MapOf w5' B (j + 1) D4 := hrg.owns
              obtain ⟨cb, cc, hct, hsum, hcb, hcb2⟩ : ∃ cb cc : Int, countsT n T4 = (((refsT n T4).length : Int), cb, cc) ∧ ((refsT n T4).length : Int) + cb + cc = n ∧ 0 ≤ cb ∧ cb ≤ n := ⟨T4.free.length, (n : Int) - (refsT n T4).length - T4.free.length, rfl, by omega, by omega, by omega⟩
              have HF := Lib.hid (show ∀ i, i < (refsT n T4).length → f4 ((refsT n T4)[i]?.getD (0, 0)) = 1 ∧ RefWf ((refsT n T4)[i]?.getD (0, 0)) from fun i hi => by
                rw [List.getElem?_eq_getElem hi, Option.getD_some]
                exact ⟨(HI4.out.1.live _).2 (List.getElem_mem hi), HW.out _ (List.getElem_mem hi)⟩)
              have HRI := Lib.hid (show ∀ i, i + 1 < (refsT n T4).length → ((refsT n T4)[i]?.getD (0, 0)).1 < ((refsT n T4)[i + 1]?.getD (0, 0)).1 from fun i hi => by
                rw [List.getElem?_eq_getElem hi, List.getElem?_eq_getElem (show i < _ by omega), Option.getD_some, Option.getD_some]
                exact List.pairwise_iff_getElem.1 (refs_rise n T4) i (i + 1) (by omega) hi (by omega))
              have C := Counts_any p q n T4 _ hT5
              rw [hct] at C
              have HC := Lib.hid C
              have HS5 := Lib.hid hS5
              have HO5 := Lib.hid hO5
              have HT5 := Lib.hid hT5
              have hrlI : ((refsT n T4).length : Int) ≤ n := by omega
              clear C hct hme hv4 hfl hrg hml5 hl0 hS5 hO5 hT5 HHAS HW
              go_wp2_with fail
              refine HC.out.mono ?_; rintro e w6 ⟨rfl, hb6⟩
              have HT6 := Lib.hid (HT5.out.below hb6)
              have HS6 := Lib.hid (HS5.out.trans (hb6.mono HS5.out.size))
              have HO6 := Lib.hid (show MapOf w6 B (j + 1) D4 from map_mod HO5.out (Mod.of_same (S := fun _ => False) hb6) (by simp))
              clear hb6 HC HT5 HS5 HO5
              go_wp2_with fail
              refine (Refs_any p q n T4 _ HT6.out).mono ?_; rintro e w7 ⟨v, rfl, hr7, hb7⟩
              have hrd := ReadsRefs.of_owns hr7
              obtain ⟨a7, c7, e⟩ := ownsRow_val hr7
              subst e
              have HT7 := Lib.hid (HT6.out.below hb7)
              have HS7 := Lib.hid (HS6.out.trans (hb7.mono HS6.out.size))
              have HO7 := Lib.hid (show MapOf w7 B (j + 1) D4 from map_mod HO6.out (Mod.of_same (S := fun _ => False) hb7) (by simp))
              clear hb7 hr7 HT6 HS6 HO6
              generalize refsT n T4 = l at *
              rcases hrd with ⟨a, cap, e, rfl⟩ | ⟨g, cap, e, hgb, hglt, hc⟩
              · clear e HF HRI
                have hsum0 : cb + cc = (n : Int) := by simpa using hsum
                clear hsum hrlI
                go_wp2_with fail
                clear hsum0
                go_loopw [164] (fun i wr => i = .int .i64 0 ∧ wr = w7) (fun i _ => 0)
                case atStart => exact ⟨rfl, rfl⟩
                case round =>
                  obtain ⟨rfl, rfl⟩ := hrel
                  go_wp2_with fail
                  go_roundw
                  case rel => exact ⟨j + 1, T4, D4, f4, by omega, by go_num, HT7.out, HO7.out, HH4, HI4, HS7.out⟩
                  case measure => simp [intOf]; omega
              · injection e with e1 e2 e3
                subst e1 e3
                have HC7 := Lib.hid hc
                have HGL := Lib.hid hglt
                clear hc hgb hglt e2
                go_wp2_with fail
                clear hsum
                go_loopw [164] (fun i wr => ∃ t : Nat, t ≤ l.length ∧ i = .int .i64 t ∧ Below w7.heap.size w7 wr) (fun i _ => l.length - (intOf i).toNat)
                case atStart => exact ⟨0, by omega, rfl, Below.refl _ _⟩
                case round =>
                  obtain ⟨t, ht, rfl, hB⟩ := hrel
                  obtain ⟨w8, rfl⟩ : ∃ w8 : World, w8 = wr := ⟨_, rfl⟩
                  by_cases hlt3 : t < l.length
                  · have hltI3 : (t : Int) < l.length := by omega
                    obtain ⟨c0, c1⟩ := HC7.out t hlt3
                    have q0 := (hB.cell (p := ⟨g, t * 2, none⟩) HGL.out).trans c0
                    have q1 := (hB.cell (p := ⟨g, t * 2 + 1, none⟩) HGL.out).trans c1
                    obtain ⟨hf1, hrw⟩ := HF.out t hlt3
                    have hprev : ∀ s, t = s + 1 → ∃ y : Int, w8.cell? ⟨g, s * 2, none⟩ = some (.int .i64 y) ∧ y < (l[t]?.getD (0, 0)).1 := by
                      rintro s rfl
                      obtain ⟨k0, _⟩ := HC7.out s (by omega)
                      exact ⟨_, (hB.cell (p := ⟨g, s * 2, none⟩) HGL.out).trans k0, HRI.out s hlt3⟩
                    generalize l[t]?.getD (0, 0) = y at *
                    obtain ⟨y1, y2⟩ := y
                    dsimp only at q0 q1 hprev
                    have HPREV := Lib.hid hprev
                    have bl9 : Below w8.heap.size w8 (w8.alloc (.cells #[.int .i64 y1, .int .i64 y2] 26)) := (Below.refl _ w8).alloc (Nat.le_refl _) _
                    have hO9 : MapOf (w8.alloc (.cells #[.int .i64 y1, .int .i64 y2] 26)) B (j + 1) D4 := map_mod (map_mod HO7.out (Mod.of_same (S := fun _ => False) hB) (by simp)) (Mod.of_same (S := fun _ => False) bl9) (by simp)
                    have hrun := look_at hO9 HH4.out y1 y2 hrw
                    have hrunD : ∀ m, (Instr.lookup 37 (.map (some B)) (.agg #[.int .i64 y1, .int .i64 y2]) false).run Try.prog (World.drewN (w8.alloc (.cells #[.int .i64 y1, .int .i64 y2] 26)) m) = .ok (.int .i64 1) (World.drewN (w8.alloc (.cells #[.int .i64 y1, .int .i64 y2] 26)) m) := fun m => by
                      have h := look_at (w := World.drewN (w8.alloc (.cells #[.int .i64 y1, .int .i64 y2] 26)) m) hO9 HH4.out y1 y2 hrw
                      rw [hf1] at h
                      exact h
                    rw [hf1] at hrun
                    have hR9 : RefAt (w8.alloc (.cells #[.int .i64 y1, .int .i64 y2] 26)) w8.heap.size (y1, y2) := World.alloc_heap_new w8 _
                    have d0 := hR9.c0
                    have d1 := hR9.c1
                    have hB9 := Lib.hid (hB.trans (bl9.mono hB.size))
                    clear hprev c0 c1 hf1 hrw hO9 hR9 hB
                    rcases t with _ | s
                    · go_upto_region 36 with (fail)
                      generalize (w8.alloc (.cells #[.int .i64 y1, .int .i64 y2] 26)) = w9 at *
                      go_quiet (fail)
                      go_wp2_with fail
                      exact ⟨⟨1, by omega, rfl, below_drewN hB9.out nq⟩, by simp [intOf]; omega⟩
                    · obtain ⟨y0, k0, hlt0⟩ := HPREV.out s rfl
                      have k9 := (bl9.cell (p := ⟨g, s * 2, none⟩) (World.block_lt_of_cell? w8 _ k0)).trans k0
                      have hsI : ((s : Int) + 1) < l.length := by omega
                      clear HPREV k0 bl9
                      go_upto_region 36 with (fail)
                      generalize (w8.alloc (.cells #[.int .i64 y1, .int .i64 y2] 26)) = w9 at *
                      clear q0 q1
                      go_quiet (fail)
                      go_wp2_with fail
                      exact ⟨⟨s + 1 + 1, by omega, by simp, below_drewN hB9.out nq⟩, by simp [intOf]; omega⟩
                  · obtain rfl : t = l.length := by omega
                    have HT8 := Lib.hid (HT7.out.below hB)
                    have HS8 := Lib.hid (HS7.out.trans (hB.mono HS7.out.size))
                    have HO8 := Lib.hid (show MapOf w8 B (j + 1) D4 from map_mod HO7.out (Mod.of_same (S := fun _ => False) hB) (by simp))
                    clear hB
                    go_wp2_with fail
                    go_roundw
                    case rel => exact ⟨j + 1, T4, D4, f4, by omega, by go_num, HT8.out, HO8.out, HH4, HI4, HS8.out⟩
                    case measure => simp [intOf]; omega
            · intro x y w6 cnt6 hxw hlx hrg6 hlt6 hg6 hen
              have hz6 := HRB.out
              have hzp := HP.out
              have hT6 := hT5.mod (Mod.of_grownBy hg6) (by intro e; injection e with e; omega) (by intro e; injection e with e; omega)
              have hS6 := hS5.trans ((Mod.of_grownBy hg6).below hS5.size (fun g hg e => by injection e with e; omega))
              have bl7 : Below w6.heap.size w6 (w6.alloc (.cells #[.int .i64 x, .int .i64 y] 26)) := (Below.refl _ w6).alloc (Nat.le_refl _) _
              have HT7 := Lib.hid (hT6.below bl7)
              have HRG7 := Lib.hid (show RangeOf (w6.alloc (.cells #[.int .i64 x, .int .i64 y] 26)) B Rb (j + 1) D4 (fun z => left z && !z.sameKey (keyL (x, y))) cnt6 from range_mod hrg6 (Mod.of_same (S := fun _ => False) bl7) (by simp) (by simp))
              have HS7 := Lib.hid (hS6.trans (bl7.mono hS6.size))
              have hR7 : RefAt (w6.alloc (.cells #[.int .i64 x, .int .i64 y] 26)) w6.heap.size (x, y) := World.alloc_heap_new w6 _
              have d0 := hR7.c0
              have d1 := hR7.c1
              have HMS := Lib.hid (metL_step hxw HW.out (refs_nodup' n T4) hlx)
              have HRG := Lib.hid hrg
              have HLT6 := Lib.hid hlt6
              have hlv := live_iff (n := n) (T := T4) (r := (x, y))
              have hvals := HI4.out.1.vals (x, y)
              have hmem := HI4.out.1.live (x, y)
              have C := Live_any p q n T4 x y _ HT7.out
              clear hT5 hS5 hT6 hS6 hg6 hrg6 hrg bl7 hR7 hxw hlx hlt6 hz6 hzp
              generalize f4 (x, y) = c at *
              have hml5I : (metL (refsT n T4) left : Int) ≤ n := by omega
              generalize metL (refsT n T4) left = m1 at *
              rcases hvals with rfl | rfl | rfl
              · have hbits : bits BinOp.and IntKind.i64 0 1 = 0 := by decide +kernel
                have hm1 := HMS.out
                rw [if_neg (fun h => by have := hmem.2 h; omega)] at hm1
                have HM1 := Lib.hid hm1
                have hlive : liveT n T4 (x, y) = false := by cases hh : liveT n T4 (x, y) with | false => rfl | true => exact absurd (hmem.2 (hlv.1 hh)) (by omega)
                rw [hlive] at C
                have HC := Lib.hid C
                clear C hm1 hlive hlv hmem HMS
                go_wp2_with fail
                refine HC.out.mono ?_; rintro e w8 ⟨rfl, hb8⟩
                have hT8 := HT7.out.below hb8
                have hrg8 : RangeOf w8 B Rb (j + 1) D4 (fun z => left z && !z.sameKey (keyL (x, y))) cnt6 := range_mod HRG7.out (Mod.of_same (S := fun _ => False) hb8) (by simp) (by simp)
                have hS8 := HS7.out.trans (hb8.mono HS7.out.size)
                clear hb8 d0 d1 hen
                go_wp2_with fail
                go_roundw
                case rel => exact ⟨_, cnt6, by rw [HM1.out]; simp, hrg8, hT8, hS8⟩
                case measure => rw [hrg8.left_eq, HRG.out.left_eq]; exact HLT6.out
              · have hbits : bits BinOp.and IntKind.i64 1 1 = 1 := by decide +kernel
                have hm1 := HMS.out
                rw [if_pos (hmem.1 rfl)] at hm1
                have HM1 := Lib.hid hm1
                have hlive : liveT n T4 (x, y) = true := hlv.2 (hmem.1 rfl)
                rw [hlive] at C
                have HC := Lib.hid C
                clear C hm1 hlive hlv hmem HMS
                go_wp2_with fail
                refine HC.out.mono ?_; rintro e w8 ⟨rfl, hb8⟩
                have hT8 := HT7.out.below hb8
                have hrg8 : RangeOf w8 B Rb (j + 1) D4 (fun z => left z && !z.sameKey (keyL (x, y))) cnt6 := range_mod HRG7.out (Mod.of_same (S := fun _ => False) hb8) (by simp) (by simp)
                have hS8 := HS7.out.trans (hb8.mono HS7.out.size)
                clear hb8 d0 d1 hen
                go_wp2_with fail
                go_roundw
                case rel => exact ⟨_, cnt6, by rw [HM1.out]; simp, hrg8, hT8, hS8⟩
                case measure => rw [hrg8.left_eq, HRG.out.left_eq]; exact HLT6.out
              · have hbits : bits BinOp.and IntKind.i64 2 1 = 0 := by decide +kernel
                have hm1 := HMS.out
                rw [if_neg (fun h => by have := hmem.2 h; omega)] at hm1
                have HM1 := Lib.hid hm1
                have hlive : liveT n T4 (x, y) = false := by cases hh : liveT n T4 (x, y) with | false => rfl | true => exact absurd (hmem.2 (hlv.1 hh)) (by omega)
                rw [hlive] at C
                have HC := Lib.hid C
                clear C hm1 hlive hlv hmem HMS
                go_wp2_with fail
                refine HC.out.mono ?_; rintro e w8 ⟨rfl, hb8⟩
                have hT8 := HT7.out.below hb8
                have hrg8 : RangeOf w8 B Rb (j + 1) D4 (fun z => left z && !z.sameKey (keyL (x, y))) cnt6 := range_mod HRG7.out (Mod.of_same (S := fun _ => False) hb8) (by simp) (by simp)
                have hS8 := HS7.out.trans (hb8.mono HS7.out.size)
                clear hb8 d0 d1 hen
                go_wp2_with fail
                go_roundw
                case rel => exact ⟨_, cnt6, by rw [HM1.out]; simp, hrg8, hT8, hS8⟩
                case measure => rw [hrg8.left_eq, HRG.out.left_eq]; exact HLT6.out
        · have EE := Lib.hid hE
          obtain ⟨i, rest, hf'⟩ : ∃ i rest, T.free = i :: rest := List.exists_cons_of_ne_nil hf
          obtain ⟨g0, g1, g2, g3, g4⟩ := one_take hv HI.out.1 hf'
          have hmo := (take_most T).trans HI.out.2
          rw [HI.out.2] at g3
          have htk := takeT_cons hf'
          have e1 : (takeT T).2.1 = ((i : Int), T.lives.getD i 0 + 1) := by rw [htk]
          have e2 : (takeT T).2.2 = 0 := by rw [htk]
          rw [e1, e2] at hE
          have EE := Lib.hid hE
          generalize hL1 : T.lives.getD i 0 + 1 = L1 at *
          have g2' : 1 ≤ L1 := by omega
          have g1' : (i : Int) < n := by omega
          have g0' : (0 : Int) ≤ i := by omega
          have hrw : RefWf ((i : Int), L1) := ⟨⟨by dsimp only; omega, by dsimp only; omega⟩, by dsimp only; omega, by dsimp only; omega⟩
          have HI' := Lib.hid (show OneInv n (takeT T).1 (putR f ((i : Int), L1) 1) ∧ (takeT T).1.most = k from ⟨g4, hmo⟩)
          have G0 := Lib.hid g0
          clear g0 g4 hmo htk e1 e2 hE hf hf' hL1 g2
          go_wp2_with fail
          refine (Step_any p q n T x hxj _ hT).mono ?_; rintro e w2 ⟨rfl, hT2, hM2⟩
          rw [EE.out] at hT2 ⊢
          dsimp only at hT2 ⊢
          have bl2 : Below w2.heap.size w2 (w2.alloc (.cells #[.int .i64 (i : Int), .int .i64 L1] 26)) := (Below.refl _ w2).alloc (Nat.le_refl _) _
          have hR3 : RefAt (w2.alloc (.cells #[.int .i64 (i : Int), .int .i64 L1] 26)) w2.heap.size ((i : Int), L1) := World.alloc_heap_new w2 _
          have hT3 := hT2.below bl2
          have hS3 := (hS.trans (hM2.below hS.size (fun k hk e => by have := HP.out; omega))).trans (bl2.mono (hM2.below hS.size (fun k hk e => by have := HP.out; omega) |> fun h => Nat.le_trans hS.size h.size))
          have hO3 : MapOf (w2.alloc (.cells #[.int .i64 (i : Int), .int .i64 L1] 26)) B j D := map_mod (map_mod hO hM2 (by have := HP.out; omega)) (Mod.of_same (S := fun _ => False) bl2) (by simp)
          have d0 := hR3.c0
          have d1 := hR3.c1
          clear hT hS hO hM2 hT2 bl2 hR3
          go_upto_region 13 with (fail)
          generalize (w2.alloc (.cells #[.int .i64 (i : Int), .int .i64 L1] 26)) = W3 at *
          generalize w2.heap.size = B3 at *
          have hrun := look_at hO3 HH.out (i : Int) L1 hrw
          rw [G0.out] at hrun
          go_upto_region 22 with (first | (at_mapUpdate; refine wpList_mapUpdate_own _ rfl _ _ _ 37 rfl 26 3 refLaw Try.underlying37 _ B j _ rfl hO3 (by unfold maxLen; omega) _ _ _ rfl rfl (keyRef _ _ hrw) _ [] (plainElem_int Try.underlying3 (by decide)) ?_; intro w4 hO4 hg4) | go_in)
          have hT4 := hT3.mod (Mod.of_grownBy hg4) (by have := HP.out; intro e; cases e; omega) (by have := HP.out; intro e; cases e; omega)
          have hS4 := hS3.trans ((Mod.of_grownBy hg4).below hS3.size (fun g hg e => by have := HP.out; cases e; omega))
          clear hT3 hS3 hO3 hrun hg4 d0 d1
          obtain ⟨T4, D4, f4, hT4, hO4, HH4, HI4⟩ : ∃ T4 D4 f4, TableAt w4 p q n T4 ∧ MapOf w4 B (j + 1) D4 ∧ Hid (Holds D4 f4) ∧ Hid (OneInv n T4 f4 ∧ T4.most = k) := ⟨_, _, _, hT4, hO4, Lib.hid (HH.out.put hrw 1), HI'⟩
          clear HI HH HI' G0 hrw EE
          have hvv := hT4.2.1
          have hwf : ∀ r ∈ refsT n T4, RefWf r := fun r hr => (ref_wf hvv hr).1
          have hhas : ∀ r ∈ refsT n T4, Maps.has D4 (keyL r) = true := fun r hr => HH4.out.has (hwf r hr) (by rw [(HI4.out.1.live r).2 hr]; decide)
          have HW := Lib.hid hwf
          have HHAS := Lib.hid hhas
          clear hwf hhas hvv
          go_wp2_with (first | (at_range; refine wpList_range_own _ rfl _ 37 rfl 26 3 refLaw Try.underlying37 _ B (j + 1) _ rfl hO4 ?_; intro w5 hrg hg5 hs5) | go_in)
          have hT5 := hT4.mod (Mod.of_grownBy hg5) (by simp) (by simp)
          have hS5 := hS4.trans ((Mod.of_grownBy hg5).below hS4.size (fun g hg e => by simp at e))
          have hBw : B < w4.heap.size := hO4.lt
          generalize hRb : w4.heap.size = Rb at *
          have HRB := Lib.hid (show B < Rb ∧ w.heap.size ≤ Rb from ⟨hBw, by have := hS4.size; omega⟩)
          clear hT4 hO4 hS4 hg5 hs5 hBw hRb
          go_frame
          go_loopw [17] (fun v wr => ∃ (left : Lit → Bool) (cnt : Nat), v = .int .i64 (metL (refsT n T4) left : Nat) ∧ RangeOf wr B Rb (j + 1) D4 left cnt ∧ TableAt wr p q n T4 ∧ Below w.heap.size w wr) (fun _ wr => wr.rangeLeft B Rb)
          case atStart => exact ⟨_, _, by rw [metL_start HHAS.out]; rfl, hrg, hT5, hS5⟩
          case round =>
            clear hrg hT5 hS5
            obtain ⟨left, cnt, rfl, hrg, hT5, hS5⟩ := hrel
            obtain ⟨w5', rfl⟩ : ∃ w5' : World, w5' = wr := ⟨_, rfl⟩
            have hml5 : (metL (refsT n T4) left : Nat) ≤ n := Nat.le_trans (List.length_filter_le _ _) (refs_le n T4)
            go_wp2_with (first | (at_next; refine wpList_next_refs _ rfl _ rfl B Rb (j + 1) D4 f4 left cnt rfl hrg HH4.out ?_ ?_) | go_in)
            · intro hl0
              have hme := metL_end (l := refsT n T4) hl0
              rw [hme]
              have hv4 := hT5.2.1
              have hfl := free_le hv4
              have hrl := refs_le n T4
              have hO5 : MapOf w5' B (j + 1) D4 := hrg.owns
              obtain ⟨cb, cc, hct, hsum, hcb, hcb2⟩ : ∃ cb cc : Int, countsT n T4 = (((refsT n T4).length : Int), cb, cc) ∧ ((refsT n T4).length : Int) + cb + cc = n ∧ 0 ≤ cb ∧ cb ≤ n := ⟨T4.free.length, (n : Int) - (refsT n T4).length - T4.free.length, rfl, by omega, by omega, by omega⟩
              have HF := Lib.hid (show ∀ i, i < (refsT n T4).length → f4 ((refsT n T4)[i]?.getD (0, 0)) = 1 ∧ RefWf ((refsT n T4)[i]?.getD (0, 0)) from fun i hi => by
                rw [List.getElem?_eq_getElem hi, Option.getD_some]
                exact ⟨(HI4.out.1.live _).2 (List.getElem_mem hi), HW.out _ (List.getElem_mem hi)⟩)
              have HRI := Lib.hid (show ∀ i, i + 1 < (refsT n T4).length → ((refsT n T4)[i]?.getD (0, 0)).1 < ((refsT n T4)[i + 1]?.getD (0, 0)).1 from fun i hi => by
                rw [List.getElem?_eq_getElem hi, List.getElem?_eq_getElem (show i < _ by omega), Option.getD_some, Option.getD_some]
                exact List.pairwise_iff_getElem.1 (refs_rise n T4) i (i + 1) (by omega) hi (by omega))
              have C := Counts_any p q n T4 _ hT5
              rw [hct] at C
              have HC := Lib.hid C
              have HS5 := Lib.hid hS5
              have HO5 := Lib.hid hO5
              have HT5 := Lib.hid hT5
              have hrlI : ((refsT n T4).length : Int) ≤ n := by omega
              clear C hct hme hv4 hfl hrg hml5 hl0 hS5 hO5 hT5 HHAS HW
              go_wp2_with fail
              refine HC.out.mono ?_; rintro e w6 ⟨rfl, hb6⟩
              have HT6 := Lib.hid (HT5.out.below hb6)
              have HS6 := Lib.hid (HS5.out.trans (hb6.mono HS5.out.size))
              have HO6 := Lib.hid (show MapOf w6 B (j + 1) D4 from map_mod HO5.out (Mod.of_same (S := fun _ => False) hb6) (by simp))
              clear hb6 HC HT5 HS5 HO5
              go_wp2_with fail
              refine (Refs_any p q n T4 _ HT6.out).mono ?_; rintro e w7 ⟨v, rfl, hr7, hb7⟩
              have hrd := ReadsRefs.of_owns hr7
              obtain ⟨a7, c7, e⟩ := ownsRow_val hr7
              subst e
              have HT7 := Lib.hid (HT6.out.below hb7)
              have HS7 := Lib.hid (HS6.out.trans (hb7.mono HS6.out.size))
              have HO7 := Lib.hid (show MapOf w7 B (j + 1) D4 from map_mod HO6.out (Mod.of_same (S := fun _ => False) hb7) (by simp))
              clear hb7 hr7 HT6 HS6 HO6
              generalize refsT n T4 = l at *
              rcases hrd with ⟨a, cap, e, rfl⟩ | ⟨g, cap, e, hgb, hglt, hc⟩
              · clear e HF HRI
                have hsum0 : cb + cc = (n : Int) := by simpa using hsum
                clear hsum hrlI
                go_wp2_with fail
                clear hsum0
                go_loopw [164] (fun i wr => i = .int .i64 0 ∧ wr = w7) (fun i _ => 0)
                case atStart => exact ⟨rfl, rfl⟩
                case round =>
                  obtain ⟨rfl, rfl⟩ := hrel
                  go_wp2_with fail
                  go_roundw
                  case rel => exact ⟨j + 1, T4, D4, f4, by omega, by go_num, HT7.out, HO7.out, HH4, HI4, HS7.out⟩
                  case measure => simp [intOf]; omega
              · injection e with e1 e2 e3
                subst e1 e3
                have HC7 := Lib.hid hc
                have HGL := Lib.hid hglt
                clear hc hgb hglt e2
                go_wp2_with fail
                clear hsum
                go_loopw [164] (fun i wr => ∃ t : Nat, t ≤ l.length ∧ i = .int .i64 t ∧ Below w7.heap.size w7 wr) (fun i _ => l.length - (intOf i).toNat)
                case atStart => exact ⟨0, by omega, rfl, Below.refl _ _⟩
                case round =>
                  obtain ⟨t, ht, rfl, hB⟩ := hrel
                  obtain ⟨w8, rfl⟩ : ∃ w8 : World, w8 = wr := ⟨_, rfl⟩
                  by_cases hlt3 : t < l.length
                  · have hltI3 : (t : Int) < l.length := by omega
                    obtain ⟨c0, c1⟩ := HC7.out t hlt3
                    have q0 := (hB.cell (p := ⟨g, t * 2, none⟩) HGL.out).trans c0
                    have q1 := (hB.cell (p := ⟨g, t * 2 + 1, none⟩) HGL.out).trans c1
                    obtain ⟨hf1, hrw⟩ := HF.out t hlt3
                    have hprev : ∀ s, t = s + 1 → ∃ y : Int, w8.cell? ⟨g, s * 2, none⟩ = some (.int .i64 y) ∧ y < (l[t]?.getD (0, 0)).1 := by
                      rintro s rfl
                      obtain ⟨k0, _⟩ := HC7.out s (by omega)
                      exact ⟨_, (hB.cell (p := ⟨g, s * 2, none⟩) HGL.out).trans k0, HRI.out s hlt3⟩
                    generalize l[t]?.getD (0, 0) = y at *
                    obtain ⟨y1, y2⟩ := y
                    dsimp only at q0 q1 hprev
                    have HPREV := Lib.hid hprev
                    have bl9 : Below w8.heap.size w8 (w8.alloc (.cells #[.int .i64 y1, .int .i64 y2] 26)) := (Below.refl _ w8).alloc (Nat.le_refl _) _
                    have hO9 : MapOf (w8.alloc (.cells #[.int .i64 y1, .int .i64 y2] 26)) B (j + 1) D4 := map_mod (map_mod HO7.out (Mod.of_same (S := fun _ => False) hB) (by simp)) (Mod.of_same (S := fun _ => False) bl9) (by simp)
                    have hrun := look_at hO9 HH4.out y1 y2 hrw
                    have hrunD : ∀ m, (Instr.lookup 37 (.map (some B)) (.agg #[.int .i64 y1, .int .i64 y2]) false).run Try.prog (World.drewN (w8.alloc (.cells #[.int .i64 y1, .int .i64 y2] 26)) m) = .ok (.int .i64 1) (World.drewN (w8.alloc (.cells #[.int .i64 y1, .int .i64 y2] 26)) m) := fun m => by
                      have h := look_at (w := World.drewN (w8.alloc (.cells #[.int .i64 y1, .int .i64 y2] 26)) m) hO9 HH4.out y1 y2 hrw
                      rw [hf1] at h
                      exact h
                    rw [hf1] at hrun
                    have hR9 : RefAt (w8.alloc (.cells #[.int .i64 y1, .int .i64 y2] 26)) w8.heap.size (y1, y2) := World.alloc_heap_new w8 _
                    have d0 := hR9.c0
                    have d1 := hR9.c1
                    have hB9 := Lib.hid (hB.trans (bl9.mono hB.size))
                    clear hprev c0 c1 hf1 hrw hO9 hR9 hB
                    rcases t with _ | s
                    · go_upto_region 36 with (fail)
                      generalize (w8.alloc (.cells #[.int .i64 y1, .int .i64 y2] 26)) = w9 at *
                      go_quiet (fail)
                      go_wp2_with fail
                      exact ⟨⟨1, by omega, rfl, below_drewN hB9.out nq⟩, by simp [intOf]; omega⟩
                    · obtain ⟨y0, k0, hlt0⟩ := HPREV.out s rfl
                      have k9 := (bl9.cell (p := ⟨g, s * 2, none⟩) (World.block_lt_of_cell? w8 _ k0)).trans k0
                      have hsI : ((s : Int) + 1) < l.length := by omega
                      clear HPREV k0 bl9
                      go_upto_region 36 with (fail)
                      generalize (w8.alloc (.cells #[.int .i64 y1, .int .i64 y2] 26)) = w9 at *
                      clear q0 q1
                      go_quiet (fail)
                      go_wp2_with fail
                      exact ⟨⟨s + 1 + 1, by omega, by simp, below_drewN hB9.out nq⟩, by simp [intOf]; omega⟩
                  · obtain rfl : t = l.length := by omega
                    have HT8 := Lib.hid (HT7.out.below hB)
                    have HS8 := Lib.hid (HS7.out.trans (hB.mono HS7.out.size))
                    have HO8 := Lib.hid (show MapOf w8 B (j + 1) D4 from map_mod HO7.out (Mod.of_same (S := fun _ => False) hB) (by simp))
                    clear hB
                    go_wp2_with fail
                    go_roundw
                    case rel => exact ⟨j + 1, T4, D4, f4, by omega, by go_num, HT8.out, HO8.out, HH4, HI4, HS8.out⟩
                    case measure => simp [intOf]; omega
            · intro x y w6 cnt6 hxw hlx hrg6 hlt6 hg6 hen
              have hz6 := HRB.out
              have hzp := HP.out
              have hT6 := hT5.mod (Mod.of_grownBy hg6) (by intro e; injection e with e; omega) (by intro e; injection e with e; omega)
              have hS6 := hS5.trans ((Mod.of_grownBy hg6).below hS5.size (fun g hg e => by injection e with e; omega))
              have bl7 : Below w6.heap.size w6 (w6.alloc (.cells #[.int .i64 x, .int .i64 y] 26)) := (Below.refl _ w6).alloc (Nat.le_refl _) _
              have HT7 := Lib.hid (hT6.below bl7)
              have HRG7 := Lib.hid (show RangeOf (w6.alloc (.cells #[.int .i64 x, .int .i64 y] 26)) B Rb (j + 1) D4 (fun z => left z && !z.sameKey (keyL (x, y))) cnt6 from range_mod hrg6 (Mod.of_same (S := fun _ => False) bl7) (by simp) (by simp))
              have HS7 := Lib.hid (hS6.trans (bl7.mono hS6.size))
              have hR7 : RefAt (w6.alloc (.cells #[.int .i64 x, .int .i64 y] 26)) w6.heap.size (x, y) := World.alloc_heap_new w6 _
              have d0 := hR7.c0
              have d1 := hR7.c1
              have HMS := Lib.hid (metL_step hxw HW.out (refs_nodup' n T4) hlx)
              have HRG := Lib.hid hrg
              have HLT6 := Lib.hid hlt6
              have hlv := live_iff (n := n) (T := T4) (r := (x, y))
              have hvals := HI4.out.1.vals (x, y)
              have hmem := HI4.out.1.live (x, y)
              have C := Live_any p q n T4 x y _ HT7.out
              clear hT5 hS5 hT6 hS6 hg6 hrg6 hrg bl7 hR7 hxw hlx hlt6 hz6 hzp
              generalize f4 (x, y) = c at *
              have hml5I : (metL (refsT n T4) left : Int) ≤ n := by omega
              generalize metL (refsT n T4) left = m1 at *
              rcases hvals with rfl | rfl | rfl
              · have hbits : bits BinOp.and IntKind.i64 0 1 = 0 := by decide +kernel
                have hm1 := HMS.out
                rw [if_neg (fun h => by have := hmem.2 h; omega)] at hm1
                have HM1 := Lib.hid hm1
                have hlive : liveT n T4 (x, y) = false := by cases hh : liveT n T4 (x, y) with | false => rfl | true => exact absurd (hmem.2 (hlv.1 hh)) (by omega)
                rw [hlive] at C
                have HC := Lib.hid C
                clear C hm1 hlive hlv hmem HMS
                go_wp2_with fail
                refine HC.out.mono ?_; rintro e w8 ⟨rfl, hb8⟩
                have hT8 := HT7.out.below hb8
                have hrg8 : RangeOf w8 B Rb (j + 1) D4 (fun z => left z && !z.sameKey (keyL (x, y))) cnt6 := range_mod HRG7.out (Mod.of_same (S := fun _ => False) hb8) (by simp) (by simp)
                have hS8 := HS7.out.trans (hb8.mono HS7.out.size)
                clear hb8 d0 d1 hen
                go_wp2_with fail
                go_roundw
                case rel => exact ⟨_, cnt6, by rw [HM1.out]; simp, hrg8, hT8, hS8⟩
                case measure => rw [hrg8.left_eq, HRG.out.left_eq]; exact HLT6.out
              · have hbits : bits BinOp.and IntKind.i64 1 1 = 1 := by decide +kernel
                have hm1 := HMS.out
                rw [if_pos (hmem.1 rfl)] at hm1
                have HM1 := Lib.hid hm1
                have hlive : liveT n T4 (x, y) = true := hlv.2 (hmem.1 rfl)
                rw [hlive] at C
                have HC := Lib.hid C
                clear C hm1 hlive hlv hmem HMS
                go_wp2_with fail
                refine HC.out.mono ?_; rintro e w8 ⟨rfl, hb8⟩
                have hT8 := HT7.out.below hb8
                have hrg8 : RangeOf w8 B Rb (j + 1) D4 (fun z => left z && !z.sameKey (keyL (x, y))) cnt6 := range_mod HRG7.out (Mod.of_same (S := fun _ => False) hb8) (by simp) (by simp)
                have hS8 := HS7.out.trans (hb8.mono HS7.out.size)
                clear hb8 d0 d1 hen
                go_wp2_with fail
                go_roundw
                case rel => exact ⟨_, cnt6, by rw [HM1.out]; simp, hrg8, hT8, hS8⟩
                case measure => rw [hrg8.left_eq, HRG.out.left_eq]; exact HLT6.out
              · have hbits : bits BinOp.and IntKind.i64 2 1 = 0 := by decide +kernel
                have hm1 := HMS.out
                rw [if_neg (fun h => by have := hmem.2 h; omega)] at hm1
                have HM1 := Lib.hid hm1
                have hlive : liveT n T4 (x, y) = false := by cases hh : liveT n T4 (x, y) with | false => rfl | true => exact absurd (hmem.2 (hlv.1 hh)) (by omega)
                rw [hlive] at C
                have HC := Lib.hid C
                clear C hm1 hlive hlv hmem HMS
                go_wp2_with fail
                refine HC.out.mono ?_; rintro e w8 ⟨rfl, hb8⟩
                have hT8 := HT7.out.below hb8
                have hrg8 : RangeOf w8 B Rb (j + 1) D4 (fun z => left z && !z.sameKey (keyL (x, y))) cnt6 := range_mod HRG7.out (Mod.of_same (S := fun _ => False) hb8) (by simp) (by simp)
                have hS8 := HS7.out.trans (hb8.mono HS7.out.size)
                clear hb8 d0 d1 hen
                go_wp2_with fail
                go_roundw
                case rel => exact ⟨_, cnt6, by rw [HM1.out]; simp, hrg8, hT8, hS8⟩
                case measure => rw [hrg8.left_eq, HRG.out.left_eq]; exact HLT6.out
      · have EE := Lib.hid hE
        obtain ⟨g0, g4⟩ := one_give hv HI.out.1 hlv
        have hmo := (give_most n T (r1, r2)).trans HI.out.2
        have hrw : RefWf (r1, r2) := (ref_wf hv (live_iff.1 hlv)).1
        have HI' := Lib.hid (show OneInv n (giveT n T (r1, r2)).1 (putR f (r1, r2) 2) ∧ (giveT n T (r1, r2)).1.most = k from ⟨g4, hmo⟩)
        have G0 := Lib.hid g0
        clear g0 g4 hmo hE hlv
        go_wp2_with fail
        refine (Step_any p q n T x hxj _ hT).mono ?_; rintro e w2 ⟨rfl, hT2, hM2⟩
        rw [EE.out] at hT2 ⊢
        dsimp only at hT2 ⊢
        have bl2 : Below w2.heap.size w2 (w2.alloc (.cells #[.int .i64 r1, .int .i64 r2] 26)) := (Below.refl _ w2).alloc (Nat.le_refl _) _
        have hR3 : RefAt (w2.alloc (.cells #[.int .i64 r1, .int .i64 r2] 26)) w2.heap.size (r1, r2) := World.alloc_heap_new w2 _
        have hT3 := hT2.below bl2
        have hS3 := (hS.trans (hM2.below hS.size (fun k hk e => by have := HP.out; omega))).trans (bl2.mono (hM2.below hS.size (fun k hk e => by have := HP.out; omega) |> fun h => Nat.le_trans hS.size h.size))
        have hO3 : MapOf (w2.alloc (.cells #[.int .i64 r1, .int .i64 r2] 26)) B j D := map_mod (map_mod hO hM2 (by have := HP.out; omega)) (Mod.of_same (S := fun _ => False) bl2) (by simp)
        have d0 := hR3.c0
        have d1 := hR3.c1
        clear hT hS hO hM2 hT2 bl2 hR3
        go_upto_region 13 with (fail)
        generalize (w2.alloc (.cells #[.int .i64 r1, .int .i64 r2] 26)) = W3 at *
        generalize w2.heap.size = B3 at *
        have hrun := look_at hO3 HH.out r1 r2 hrw
        rw [G0.out] at hrun
        go_upto_region 22 with (first | (at_mapUpdate; refine wpList_mapUpdate_own _ rfl _ _ _ 37 rfl 26 3 refLaw Try.underlying37 _ B j _ rfl hO3 (by unfold maxLen; omega) _ _ _ rfl rfl (keyRef _ _ hrw) _ [] (plainElem_int Try.underlying3 (by decide)) ?_; intro w4 hO4 hg4) | go_in)
        have hT4 := hT3.mod (Mod.of_grownBy hg4) (by have := HP.out; intro e; cases e; omega) (by have := HP.out; intro e; cases e; omega)
        have hS4 := hS3.trans ((Mod.of_grownBy hg4).below hS3.size (fun g hg e => by have := HP.out; cases e; omega))
        clear hT3 hS3 hO3 hrun hg4 d0 d1
        obtain ⟨T4, D4, f4, hT4, hO4, HH4, HI4⟩ : ∃ T4 D4 f4, TableAt w4 p q n T4 ∧ MapOf w4 B (j + 1) D4 ∧ Hid (Holds D4 f4) ∧ Hid (OneInv n T4 f4 ∧ T4.most = k) := ⟨_, _, _, hT4, hO4, Lib.hid (HH.out.put hrw 2), HI'⟩
        clear HI HH HI' G0 hrw EE
        have hvv := hT4.2.1
        have hwf : ∀ r ∈ refsT n T4, RefWf r := fun r hr => (ref_wf hvv hr).1
        have hhas : ∀ r ∈ refsT n T4, Maps.has D4 (keyL r) = true := fun r hr => HH4.out.has (hwf r hr) (by rw [(HI4.out.1.live r).2 hr]; decide)
        have HW := Lib.hid hwf
        have HHAS := Lib.hid hhas
        clear hwf hhas hvv
        go_wp2_with (first | (at_range; refine wpList_range_own _ rfl _ 37 rfl 26 3 refLaw Try.underlying37 _ B (j + 1) _ rfl hO4 ?_; intro w5 hrg hg5 hs5) | go_in)
        have hT5 := hT4.mod (Mod.of_grownBy hg5) (by simp) (by simp)
        have hS5 := hS4.trans ((Mod.of_grownBy hg5).below hS4.size (fun g hg e => by simp at e))
        have hBw : B < w4.heap.size := hO4.lt
        generalize hRb : w4.heap.size = Rb at *
        have HRB := Lib.hid (show B < Rb ∧ w.heap.size ≤ Rb from ⟨hBw, by have := hS4.size; omega⟩)
        clear hT4 hO4 hS4 hg5 hs5 hBw hRb
        go_frame
        go_loopw [17] (fun v wr => ∃ (left : Lit → Bool) (cnt : Nat), v = .int .i64 (metL (refsT n T4) left : Nat) ∧ RangeOf wr B Rb (j + 1) D4 left cnt ∧ TableAt wr p q n T4 ∧ Below w.heap.size w wr) (fun _ wr => wr.rangeLeft B Rb)
        case atStart => exact ⟨_, _, by rw [metL_start HHAS.out]; rfl, hrg, hT5, hS5⟩
        case round =>
          clear hrg hT5 hS5
          obtain ⟨left, cnt, rfl, hrg, hT5, hS5⟩ := hrel
          obtain ⟨w5', rfl⟩ : ∃ w5' : World, w5' = wr := ⟨_, rfl⟩
          have hml5 : (metL (refsT n T4) left : Nat) ≤ n := Nat.le_trans (List.length_filter_le _ _) (refs_le n T4)
          go_wp2_with (first | (at_next; refine wpList_next_refs _ rfl _ rfl B Rb (j + 1) D4 f4 left cnt rfl hrg HH4.out ?_ ?_) | go_in)
          · intro hl0
            have hme := metL_end (l := refsT n T4) hl0
            rw [hme]
            have hv4 := hT5.2.1
            have hfl := free_le hv4
            have hrl := refs_le n T4
            have hO5 : MapOf w5' B (j + 1) D4 := hrg.owns
            obtain ⟨cb, cc, hct, hsum, hcb, hcb2⟩ : ∃ cb cc : Int, countsT n T4 = (((refsT n T4).length : Int), cb, cc) ∧ ((refsT n T4).length : Int) + cb + cc = n ∧ 0 ≤ cb ∧ cb ≤ n := ⟨T4.free.length, (n : Int) - (refsT n T4).length - T4.free.length, rfl, by omega, by omega, by omega⟩
            have HF := Lib.hid (show ∀ i, i < (refsT n T4).length → f4 ((refsT n T4)[i]?.getD (0, 0)) = 1 ∧ RefWf ((refsT n T4)[i]?.getD (0, 0)) from fun i hi => by
              rw [List.getElem?_eq_getElem hi, Option.getD_some]
              exact ⟨(HI4.out.1.live _).2 (List.getElem_mem hi), HW.out _ (List.getElem_mem hi)⟩)
            have HRI := Lib.hid (show ∀ i, i + 1 < (refsT n T4).length → ((refsT n T4)[i]?.getD (0, 0)).1 < ((refsT n T4)[i + 1]?.getD (0, 0)).1 from fun i hi => by
              rw [List.getElem?_eq_getElem hi, List.getElem?_eq_getElem (show i < _ by omega), Option.getD_some, Option.getD_some]
              exact List.pairwise_iff_getElem.1 (refs_rise n T4) i (i + 1) (by omega) hi (by omega))
            have C := Counts_any p q n T4 _ hT5
            rw [hct] at C
            have HC := Lib.hid C
            have HS5 := Lib.hid hS5
            have HO5 := Lib.hid hO5
            have HT5 := Lib.hid hT5
            have hrlI : ((refsT n T4).length : Int) ≤ n := by omega
            clear C hct hme hv4 hfl hrg hml5 hl0 hS5 hO5 hT5 HHAS HW
            go_wp2_with fail
            refine HC.out.mono ?_; rintro e w6 ⟨rfl, hb6⟩
            have HT6 := Lib.hid (HT5.out.below hb6)
            have HS6 := Lib.hid (HS5.out.trans (hb6.mono HS5.out.size))
            have HO6 := Lib.hid (show MapOf w6 B (j + 1) D4 from map_mod HO5.out (Mod.of_same (S := fun _ => False) hb6) (by simp))
            clear hb6 HC HT5 HS5 HO5
            go_wp2_with fail
            refine (Refs_any p q n T4 _ HT6.out).mono ?_; rintro e w7 ⟨v, rfl, hr7, hb7⟩
            have hrd := ReadsRefs.of_owns hr7
            obtain ⟨a7, c7, e⟩ := ownsRow_val hr7
            subst e
            have HT7 := Lib.hid (HT6.out.below hb7)
            have HS7 := Lib.hid (HS6.out.trans (hb7.mono HS6.out.size))
            have HO7 := Lib.hid (show MapOf w7 B (j + 1) D4 from map_mod HO6.out (Mod.of_same (S := fun _ => False) hb7) (by simp))
            clear hb7 hr7 HT6 HS6 HO6
            generalize refsT n T4 = l at *
            rcases hrd with ⟨a, cap, e, rfl⟩ | ⟨g, cap, e, hgb, hglt, hc⟩
            · clear e HF HRI
              have hsum0 : cb + cc = (n : Int) := by simpa using hsum
              clear hsum hrlI
              go_wp2_with fail
              clear hsum0
              go_loopw [164] (fun i wr => i = .int .i64 0 ∧ wr = w7) (fun i _ => 0)
              case atStart => exact ⟨rfl, rfl⟩
              case round =>
                obtain ⟨rfl, rfl⟩ := hrel
                go_wp2_with fail
                go_roundw
                case rel => exact ⟨j + 1, T4, D4, f4, by omega, by go_num, HT7.out, HO7.out, HH4, HI4, HS7.out⟩
                case measure => simp [intOf]; omega
            · injection e with e1 e2 e3
              subst e1 e3
              have HC7 := Lib.hid hc
              have HGL := Lib.hid hglt
              clear hc hgb hglt e2
              go_wp2_with fail
              clear hsum
              go_loopw [164] (fun i wr => ∃ t : Nat, t ≤ l.length ∧ i = .int .i64 t ∧ Below w7.heap.size w7 wr) (fun i _ => l.length - (intOf i).toNat)
              case atStart => exact ⟨0, by omega, rfl, Below.refl _ _⟩
              case round =>
                obtain ⟨t, ht, rfl, hB⟩ := hrel
                obtain ⟨w8, rfl⟩ : ∃ w8 : World, w8 = wr := ⟨_, rfl⟩
                by_cases hlt3 : t < l.length
                · have hltI3 : (t : Int) < l.length := by omega
                  obtain ⟨c0, c1⟩ := HC7.out t hlt3
                  have q0 := (hB.cell (p := ⟨g, t * 2, none⟩) HGL.out).trans c0
                  have q1 := (hB.cell (p := ⟨g, t * 2 + 1, none⟩) HGL.out).trans c1
                  obtain ⟨hf1, hrw⟩ := HF.out t hlt3
                  have hprev : ∀ s, t = s + 1 → ∃ y : Int, w8.cell? ⟨g, s * 2, none⟩ = some (.int .i64 y) ∧ y < (l[t]?.getD (0, 0)).1 := by
                    rintro s rfl
                    obtain ⟨k0, _⟩ := HC7.out s (by omega)
                    exact ⟨_, (hB.cell (p := ⟨g, s * 2, none⟩) HGL.out).trans k0, HRI.out s hlt3⟩
                  generalize l[t]?.getD (0, 0) = y at *
                  obtain ⟨y1, y2⟩ := y
                  dsimp only at q0 q1 hprev
                  have HPREV := Lib.hid hprev
                  have bl9 : Below w8.heap.size w8 (w8.alloc (.cells #[.int .i64 y1, .int .i64 y2] 26)) := (Below.refl _ w8).alloc (Nat.le_refl _) _
                  have hO9 : MapOf (w8.alloc (.cells #[.int .i64 y1, .int .i64 y2] 26)) B (j + 1) D4 := map_mod (map_mod HO7.out (Mod.of_same (S := fun _ => False) hB) (by simp)) (Mod.of_same (S := fun _ => False) bl9) (by simp)
                  have hrun := look_at hO9 HH4.out y1 y2 hrw
                  have hrunD : ∀ m, (Instr.lookup 37 (.map (some B)) (.agg #[.int .i64 y1, .int .i64 y2]) false).run Try.prog (World.drewN (w8.alloc (.cells #[.int .i64 y1, .int .i64 y2] 26)) m) = .ok (.int .i64 1) (World.drewN (w8.alloc (.cells #[.int .i64 y1, .int .i64 y2] 26)) m) := fun m => by
                    have h := look_at (w := World.drewN (w8.alloc (.cells #[.int .i64 y1, .int .i64 y2] 26)) m) hO9 HH4.out y1 y2 hrw
                    rw [hf1] at h
                    exact h
                  rw [hf1] at hrun
                  have hR9 : RefAt (w8.alloc (.cells #[.int .i64 y1, .int .i64 y2] 26)) w8.heap.size (y1, y2) := World.alloc_heap_new w8 _
                  have d0 := hR9.c0
                  have d1 := hR9.c1
                  have hB9 := Lib.hid (hB.trans (bl9.mono hB.size))
                  clear hprev c0 c1 hf1 hrw hO9 hR9 hB
                  rcases t with _ | s
                  · go_upto_region 36 with (fail)
                    generalize (w8.alloc (.cells #[.int .i64 y1, .int .i64 y2] 26)) = w9 at *
                    go_quiet (fail)
                    go_wp2_with fail
                    exact ⟨⟨1, by omega, rfl, below_drewN hB9.out nq⟩, by simp [intOf]; omega⟩
                  · obtain ⟨y0, k0, hlt0⟩ := HPREV.out s rfl
                    have k9 := (bl9.cell (p := ⟨g, s * 2, none⟩) (World.block_lt_of_cell? w8 _ k0)).trans k0
                    have hsI : ((s : Int) + 1) < l.length := by omega
                    clear HPREV k0 bl9
                    go_upto_region 36 with (fail)
                    generalize (w8.alloc (.cells #[.int .i64 y1, .int .i64 y2] 26)) = w9 at *
                    clear q0 q1
                    go_quiet (fail)
                    go_wp2_with fail
                    exact ⟨⟨s + 1 + 1, by omega, by simp, below_drewN hB9.out nq⟩, by simp [intOf]; omega⟩
                · obtain rfl : t = l.length := by omega
                  have HT8 := Lib.hid (HT7.out.below hB)
                  have HS8 := Lib.hid (HS7.out.trans (hB.mono HS7.out.size))
                  have HO8 := Lib.hid (show MapOf w8 B (j + 1) D4 from map_mod HO7.out (Mod.of_same (S := fun _ => False) hB) (by simp))
                  clear hB
                  go_wp2_with fail
                  go_roundw
                  case rel => exact ⟨j + 1, T4, D4, f4, by omega, by go_num, HT8.out, HO8.out, HH4, HI4, HS8.out⟩
                  case measure => simp [intOf]; omega
          · intro x y w6 cnt6 hxw hlx hrg6 hlt6 hg6 hen
            have hz6 := HRB.out
            have hzp := HP.out
            have hT6 := hT5.mod (Mod.of_grownBy hg6) (by intro e; injection e with e; omega) (by intro e; injection e with e; omega)
            have hS6 := hS5.trans ((Mod.of_grownBy hg6).below hS5.size (fun g hg e => by injection e with e; omega))
            have bl7 : Below w6.heap.size w6 (w6.alloc (.cells #[.int .i64 x, .int .i64 y] 26)) := (Below.refl _ w6).alloc (Nat.le_refl _) _
            have HT7 := Lib.hid (hT6.below bl7)
            have HRG7 := Lib.hid (show RangeOf (w6.alloc (.cells #[.int .i64 x, .int .i64 y] 26)) B Rb (j + 1) D4 (fun z => left z && !z.sameKey (keyL (x, y))) cnt6 from range_mod hrg6 (Mod.of_same (S := fun _ => False) bl7) (by simp) (by simp))
            have HS7 := Lib.hid (hS6.trans (bl7.mono hS6.size))
            have hR7 : RefAt (w6.alloc (.cells #[.int .i64 x, .int .i64 y] 26)) w6.heap.size (x, y) := World.alloc_heap_new w6 _
            have d0 := hR7.c0
            have d1 := hR7.c1
            have HMS := Lib.hid (metL_step hxw HW.out (refs_nodup' n T4) hlx)
            have HRG := Lib.hid hrg
            have HLT6 := Lib.hid hlt6
            have hlv := live_iff (n := n) (T := T4) (r := (x, y))
            have hvals := HI4.out.1.vals (x, y)
            have hmem := HI4.out.1.live (x, y)
            have C := Live_any p q n T4 x y _ HT7.out
            clear hT5 hS5 hT6 hS6 hg6 hrg6 hrg bl7 hR7 hxw hlx hlt6 hz6 hzp
            generalize f4 (x, y) = c at *
            have hml5I : (metL (refsT n T4) left : Int) ≤ n := by omega
            generalize metL (refsT n T4) left = m1 at *
            rcases hvals with rfl | rfl | rfl
            · have hbits : bits BinOp.and IntKind.i64 0 1 = 0 := by decide +kernel
              have hm1 := HMS.out
              rw [if_neg (fun h => by have := hmem.2 h; omega)] at hm1
              have HM1 := Lib.hid hm1
              have hlive : liveT n T4 (x, y) = false := by cases hh : liveT n T4 (x, y) with | false => rfl | true => exact absurd (hmem.2 (hlv.1 hh)) (by omega)
              rw [hlive] at C
              have HC := Lib.hid C
              clear C hm1 hlive hlv hmem HMS
              go_wp2_with fail
              refine HC.out.mono ?_; rintro e w8 ⟨rfl, hb8⟩
              have hT8 := HT7.out.below hb8
              have hrg8 : RangeOf w8 B Rb (j + 1) D4 (fun z => left z && !z.sameKey (keyL (x, y))) cnt6 := range_mod HRG7.out (Mod.of_same (S := fun _ => False) hb8) (by simp) (by simp)
              have hS8 := HS7.out.trans (hb8.mono HS7.out.size)
              clear hb8 d0 d1 hen
              go_wp2_with fail
              go_roundw
              case rel => exact ⟨_, cnt6, by rw [HM1.out]; simp, hrg8, hT8, hS8⟩
              case measure => rw [hrg8.left_eq, HRG.out.left_eq]; exact HLT6.out
            · have hbits : bits BinOp.and IntKind.i64 1 1 = 1 := by decide +kernel
              have hm1 := HMS.out
              rw [if_pos (hmem.1 rfl)] at hm1
              have HM1 := Lib.hid hm1
              have hlive : liveT n T4 (x, y) = true := hlv.2 (hmem.1 rfl)
              rw [hlive] at C
              have HC := Lib.hid C
              clear C hm1 hlive hlv hmem HMS
              go_wp2_with fail
              refine HC.out.mono ?_; rintro e w8 ⟨rfl, hb8⟩
              have hT8 := HT7.out.below hb8
              have hrg8 : RangeOf w8 B Rb (j + 1) D4 (fun z => left z && !z.sameKey (keyL (x, y))) cnt6 := range_mod HRG7.out (Mod.of_same (S := fun _ => False) hb8) (by simp) (by simp)
              have hS8 := HS7.out.trans (hb8.mono HS7.out.size)
              clear hb8 d0 d1 hen
              go_wp2_with fail
              go_roundw
              case rel => exact ⟨_, cnt6, by rw [HM1.out]; simp, hrg8, hT8, hS8⟩
              case measure => rw [hrg8.left_eq, HRG.out.left_eq]; exact HLT6.out
            · have hbits : bits BinOp.and IntKind.i64 2 1 = 0 := by decide +kernel
              have hm1 := HMS.out
              rw [if_neg (fun h => by have := hmem.2 h; omega)] at hm1
              have HM1 := Lib.hid hm1
              have hlive : liveT n T4 (x, y) = false := by cases hh : liveT n T4 (x, y) with | false => rfl | true => exact absurd (hmem.2 (hlv.1 hh)) (by omega)
              rw [hlive] at C
              have HC := Lib.hid C
              clear C hm1 hlive hlv hmem HMS
              go_wp2_with fail
              refine HC.out.mono ?_; rintro e w8 ⟨rfl, hb8⟩
              have hT8 := HT7.out.below hb8
              have hrg8 : RangeOf w8 B Rb (j + 1) D4 (fun z => left z && !z.sameKey (keyL (x, y))) cnt6 := range_mod HRG7.out (Mod.of_same (S := fun _ => False) hb8) (by simp) (by simp)
              have hS8 := HS7.out.trans (hb8.mono HS7.out.size)
              clear hb8 d0 d1 hen
              go_wp2_with fail
              go_roundw
              case rel => exact ⟨_, cnt6, by rw [HM1.out]; simp, hrg8, hT8, hS8⟩
              case measure => rw [hrg8.left_eq, HRG.out.left_eq]; exact HLT6.out
    · obtain rfl : j = m := by omega
      go_wp2_with fail
      go_ret
      exact ⟨rfl, hS⟩


theorem lawOne (w : World) (a0 : Int) (w0 : (Lit.int .u8 a0).wf = true) (a1 : Int) (w1 : (Lit.int .u8 a1).wf = true) (a2 : Option Addr) (len2 cap2 : Nat) (z2 : List Int) (w2 : IsRow .u8 w a2 len2 cap2 z2) :
    Calls Try.prog 5 #[.int .u8 a0, .int .u8 a1, .slice a2 len2 cap2] w fun e w' => e = .returned (.bool true) ∧ Below w.heap.size w w' := by
  obtain ⟨h00, h01⟩ := bounds_u8 w0
  obtain ⟨h10, h11⟩ := bounds_u8 w1
  rcases row_cases w2 with ⟨rfl, rfl, rfl⟩ | ⟨x, rfl, rfl, hm⟩ | ⟨b, off, rfl, h1, h2, h3, h4, h5⟩
  · exact one_nil a0 h00 h01 a1 h10 h11 w
  · exact one_zero a0 h00 h01 a1 h10 h11 _ _ w hm
  · exact one_some a0 h00 h01 a1 h10 h11 b off len2 cap2 z2 w h4 h5 h2 h1 h3

end Slot
end Go.Proofs.Ytpcbmckknafdgaa
