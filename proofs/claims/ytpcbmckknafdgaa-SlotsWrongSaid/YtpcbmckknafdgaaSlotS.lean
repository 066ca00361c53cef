/- The law SlotsWrong: the walk. -/
import Derived.Test.YtpcbmckknafdgaaSlotP
import Derived.BigRegion
import Derived.IntWalk
namespace Go.Proofs.Ytpcbmckknafdgaa
open Go.RowKit Go.Shelf
set_option linter.unusedVariables false
set_option linter.unusedSimpArgs false
set_option maxRecDepth 100000
namespace Slot

theorem cell_list (W : World) (l : List Value) (t : TypeId) (j : Nat) (u : Value) (h : l[j]? = some u) : (W.alloc (.cells l.toArray t)).cell? ((⟨W.heap.size, 0, none⟩ : Addr).add j) = some u := by
  rcases j with _ | j
  · simp [Addr.add, h]
  · simp [Addr.add, h]
theorem live_at {n : Nat} {T : Tab} {i : Nat} {l : Int} (h : liveT n T ((i : Int), l) = true) : T.taken.getD i false = true ∧ T.lives.getD i 0 = l := by
  obtain ⟨j, e, _, h1, h2⟩ := live_of h
  obtain rfl : i = j := by omega
  exact ⟨h1, h2⟩
theorem not_true {b : Bool} (h : b ≠ true) : b = false := by cases b <;> simp_all
theorem dead_out {n : Nat} {T : Tab} {a b : Int} (h : a < 0 ∨ n ≤ a) : liveT n T (a, b) = false := not_true fun e => by
  obtain ⟨j, e, h1, _⟩ := live_of e
  omega
theorem dead_ref {n : Nat} {T : Tab} (hg : Good n T) {a b : Int} (h : (a, b) ∈ refsT n T) {c : Int} (hc : c ≤ 0) :
    liveT n T (a, b + 1) = false ∧ liveT n T (a, b - 1) = false ∧ liveT n T (a, c) = false := by
  obtain ⟨i, hi, ht, e⟩ := mem_refs.1 h
  injection e with e1 e2
  subst e1
  have h1 := hg.one i hi ht
  refine ⟨not_true fun e => ?_, not_true fun e => ?_, not_true fun e => ?_⟩ <;> · have := (live_at e).2; omega
theorem dead_free {n : Nat} {T : Tab} (hv : Valid n T) {i : Nat} (h : i ∈ T.free) (l : Int) : liveT n T ((i : Int), l) = false := not_true fun e => by
  have := (hv.free i h).2.1
  rw [(live_at e).1] at this
  cases this
theorem ref_bds {n : Nat} {T : Tab} (hv : Valid n T) {a b : Int} (h : (a, b) ∈ refsT n T) : 0 ≤ a ∧ a < n ∧ 0 ≤ b ∧ b ≤ T.most := by
  obtain ⟨i, hi, ht, e⟩ := mem_refs.1 h
  injection e with e1 e2
  have := hv.lives i hi
  omega
theorem look_out {n : Nat} {T : Tab} {a : Int} (h : a < 0 ∨ n ≤ a) : lookT n T a = (0, false) := by rw [lookT, if_neg (by omega)]
theorem look_free {n : Nat} {T : Tab} (hv : Valid n T) {i : Nat} (h : i ∈ T.free) : lookT n T i = (T.lives.getD i 0, false) ∧ 0 ≤ T.lives.getD i 0 ∧ T.lives.getD i 0 ≤ T.most := by
  obtain ⟨h1, h2, h3⟩ := hv.free i h
  refine ⟨?_, hv.lives i h1⟩
  rw [lookT, if_pos ⟨by omega, by omega⟩]
  simp only [Int.toNat_natCast, h2]
/-- A literal of references owns its block. -/
theorem owns_lit {W : World} {B : Nat} {t : TypeId} {l : List R} (h : W.heap[B]? = some (.cells (refCells l).toArray t (0, 0))) (hl : l.length ≤ maxLen) : W.ownsRow B t 2 (.slice (some ⟨B, 0, none⟩) l.length l.length) l.length (refCells l) := by
  refine ⟨refCells_length l, .inr ⟨B, l.length, _, rfl, Nat.le_refl _, h, Nat.le_refl _, hl, by simp [refCells_length], ?_⟩⟩
  rw [List.take_of_length_le (by simp [refCells_length])]



set_option maxHeartbeats 16000000 in
theorem wrong_nil (a0 : Int) (h00 : 0 ≤ a0) (h01 : a0 ≤ 255) (a1 : Int) (h10 : 0 ≤ a1) (h11 : a1 ≤ 255)  (x : Int) (hx0 : -9223372036854775808 ≤ x) (hx1 : x ≤ 9223372036854775807) (w : World)  :
    Calls Try.prog 9 #[.int .u8 a0, .int .u8 a1, .slice none 0 0, .int .i64 x] w fun e w' => e = .returned (.bool true) ∧ Below w.heap.size w w' := by
  go_enter Try.func9, Try.ntmps9
  go_wp2_with fail
  refine (awake_any _).mono ?_; rintro e wa ⟨rfl, hba⟩
  go_wp2_with fail
  refine (sizes_any _ _ (by omega) (by omega) (by omega) (by omega) _).mono ?_; rintro e w' ⟨rfl, rfl⟩
  have hn0 : 0 ≤ a0 % 41 := by omega
  have hn1 : a0 % 41 ≤ 40 := by omega
  have hk1 : 1 ≤ 1 + a1 % 6 := by omega
  have hk2 : 1 + a1 % 6 ≤ 6 := by omega
  generalize a0 % 41 = ni at *
  generalize 1 + a1 % 6 = k at *
  obtain ⟨n, rfl⟩ := Int.eq_ofNat_of_zero_le hn0
  clear hn0 h00 h01 h10 h11
  obtain ⟨xa, hxa, hxa0, hxa1⟩ : ∃ a : Int, min x (-1) = a ∧ -9223372036854775808 ≤ a ∧ a ≤ -1 := ⟨_, rfl, by omega, by omega⟩
  obtain ⟨xb, hxb, hxb0, hxb1⟩ : ∃ a : Int, max x 1025 = a ∧ a ≤ 9223372036854775807 ∧ 1025 ≤ a := ⟨_, rfl, by omega, by omega⟩
  obtain ⟨xc, hxc, hxc0, hxc1⟩ : ∃ a : Int, min x 0 = a ∧ -9223372036854775808 ≤ a ∧ a ≤ 0 := ⟨_, rfl, by omega, by omega⟩
  obtain ⟨xd, hxd, hxd0, hxd1⟩ : ∃ a : Int, max x 4294967297 = a ∧ a ≤ 9223372036854775807 ∧ 4294967297 ≤ a := ⟨_, rfl, by omega, by omega⟩
  obtain ⟨xn, hxn, hxn0, hxn1⟩ : ∃ a : Int, max x (n : Int) = a ∧ a ≤ 9223372036854775807 ∧ (n : Int) ≤ a := ⟨_, rfl, by omega, by omega⟩
  go_wp2_with fail
  have hmin : min (0 : Int) 200 = 0 := by decide
  have hL8 : (wa.alloc (.cells #[.int .i64 xa, .int .i64 1, .int .i64 xb, .int .i64 1, .int .i64 1, .int .i64 xc, .int .i64 1, .int .i64 xd] 55)).heap[wa.heap.size]? = some (.cells #[.int .i64 xa, .int .i64 1, .int .i64 xb, .int .i64 1, .int .i64 1, .int .i64 xc, .int .i64 1, .int .i64 xd] 55 (0, 0)) := World.alloc_heap_new wa _
  have hba' := hba.alloc (by exact hba.size) (.cells #[.int .i64 xa, .int .i64 1, .int .i64 xb, .int .i64 1, .int .i64 1, .int .i64 xc, .int .i64 1, .int .i64 xd] 55)
  generalize wa.alloc (.cells #[.int .i64 xa, .int .i64 1, .int .i64 xb, .int .i64 1, .int .i64 1, .int .i64 xc, .int .i64 1, .int .i64 xd] 55) = wb at *
  have hsz := hba.size
  generalize wa.heap.size = B8 at *
  have H8 := Lib.hid hL8
  clear hL8 hba
  go_loopw [56, 12, 13, 14] (fun i _ _ _ wr => ∃ (j : Nat), j ≤ 4 ∧ i = .int .i64 j ∧ Hid (wr.heap[B8]? = some (.cells #[.int .i64 xa, .int .i64 1, .int .i64 xb, .int .i64 1, .int .i64 1, .int .i64 xc, .int .i64 1, .int .i64 xd] 55 (0, 0))) ∧ Below w.heap.size w wr) (fun i _ _ _ _ => 4 - (intOf i).toNat)
  case atStart => exact ⟨0, Nat.zero_le _, rfl, H8, hba'⟩
  case round =>
    clear H8 hba'
    obtain ⟨j, hj, rfl, H8, hS⟩ := hrel
    by_cases hlt : j < 4
    · obtain ⟨wo, rfl⟩ : ∃ wo : World, wo = wr := ⟨_, rfl⟩
      obtain ⟨u, v, c0, c1, hno⟩ : ∃ u v, wo.cell? ⟨B8, j * 2, none⟩ = some (.int .i64 u) ∧ wo.cell? ⟨B8, j * 2 + 1, none⟩ = some (.int .i64 v) ∧ ¬ (0 ≤ u ∧ u ≤ 1024 ∧ 1 ≤ v ∧ v ≤ 4294967296) := by
        have h8 := H8.out
        rcases (show j = 0 ∨ j = 1 ∨ j = 2 ∨ j = 3 by omega) with rfl | rfl | rfl | rfl
        · exact ⟨xa, 1, by simp [World.cell?, h8], by simp [World.cell?, h8], by omega⟩
        · exact ⟨xb, 1, by simp [World.cell?, h8], by simp [World.cell?, h8], by omega⟩
        · exact ⟨1, xc, by simp [World.cell?, h8], by simp [World.cell?, h8], by omega⟩
        · exact ⟨1, xd, by simp [World.cell?, h8], by simp [World.cell?, h8], by omega⟩
      have HNO := Lib.hid hno
      have hbl : Below wo.heap.size wo (wo.alloc (.cells #[.int .i64 u, .int .i64 v] 55)) := (Below.refl _ _).alloc (Nat.le_refl _) _
      have hS' := hS.trans (hbl.mono hS.size)
      have H8' := Lib.hid ((hbl.block B8 (Array.getElem?_eq_some_iff.1 H8.out).1).trans H8.out)
      clear hno hS hbl H8
      go_wp2_with fail
      refine (New_no u v _ HNO.out).mono ?_; rintro e w' ⟨rfl, rfl⟩
      go_wp2_with fail
      go_roundw
      case rel => exact ⟨j + 1, by omega, by go_num, H8', hS'⟩
      case measure => simp [intOf]; omega
    · obtain rfl : j = 4 := by omega
      clear hlt H8 hj
      go_wp2_with fail
      refine (New_yes n _ _ (by omega) (by omega)).mono ?_; rintro e wc ⟨rfl, hT, hBa⟩
      have hS1 := hS.trans (hBa.mono hS.size)
      have hsz2 := hS.size
      have hlt2 := hT.lt
      obtain ⟨p, hp⟩ : ∃ p, p = wr.heap.size + 1 := ⟨_, rfl⟩
      rw [← hp] at hT hlt2 ⊢
      have hsz' : w.heap.size ≤ p := by omega
      generalize wr.heap.size = q at *
      have HP := Lib.hid (show w.heap.size ≤ q ∧ w.heap.size ≤ p ∧ p < wc.heap.size ∧ q < wc.heap.size from ⟨hsz2, hsz', hlt2⟩)
      have HG := Lib.hid (show Good n (newT n k) ∧ (newT n k).most = k from ⟨new_good n k, rfl⟩)
      clear hBa hS hsz hsz2 hp hsz' hlt2
      go_wp2_with fail
      go_loopw [93, 18] (fun i _ wr => ∃ (j : Nat) (T : Tab), j ≤ 0 ∧ i = .int .i64 j ∧ TableAt wr p q n T ∧ Hid (Good n T ∧ T.most = k) ∧ Below w.heap.size w wr) (fun i _ _ => 0 - (intOf i).toNat)
      case atStart => exact ⟨0, _, Nat.zero_le _, rfl, hT, HG, hS1⟩
      case round =>
        clear hT HG hS1
        obtain ⟨j, T, hj, rfl, hT, HG, hS⟩ := hrel
        by_cases hlt : j < 0
        · exact absurd hlt (by omega)
        · obtain rfl : j = 0 := by omega
          clear hlt hj
          go_wp2_with fail
          refine (Refs_any p q n T _ hT).mono ?_; rintro e w1 ⟨v1, rfl, hr1, hb1⟩
          have hT1 := hT.below hb1
          have hS1 := hS.trans (hb1.mono hS.size)
          have hrr1 := ReadsRefs.of_owns hr1
          obtain ⟨ar, cr, rfl⟩ := ownsRow_val hr1
          have hz0 := hT.lt
          have hb1s := hb1.size
          have HZ0 := Lib.hid hz0
          clear hT hS hr1 hb1 hz0
          go_wp2_with fail
          refine (Free_any p q n T _ hT1).mono ?_; rintro e w2 ⟨v2, rfl, hr2, hb2⟩
          have hT2 := hT1.below hb2
          have hS2 := hS1.trans (hb2.mono hS1.size)
          have hrr2 := hrr1.below hb2
          have hrd2 := Reads.of_owns (zs := T.free.map fun x : Nat => (x : Int)) (by rw [List.map_map]; exact hr2)
          have hfb : ∀ g, v2.ownBlock = some g → ¬ (g = p ∨ g = q) := fun g e => by have := (hr2.lt g e).1; have := hb1s; have := HZ0.out; omega
          obtain ⟨af, cf, rfl⟩ := ownsRow_val hr2
          have HFB := Lib.hid hfb
          have hfl := free_le hT2.2.1
          have hrl := refs_le n T
          clear hT1 hS1 hr2 hb2 hrr1 hfb hb1s
          go_wp2_with fail
          have hz := hS2.size
          have hbl : Below w2.heap.size w2 (w2.alloc (.cells #[.int .i64 xa, .int .i64 1, .int .i64 xn, .int .i64 1] 26)) := (Below.refl _ _).alloc (Nat.le_refl _) _
          have hrow : (w2.alloc (.cells #[.int .i64 xa, .int .i64 1, .int .i64 xn, .int .i64 1] 26)).ownsRow w2.heap.size 26 2 (.slice (some ⟨w2.heap.size, 0, none⟩) 2 2) 2 (refCells [(xa, 1), (xn, 1)]) := owns_lit (l := [(xa, 1), (xn, 1)]) (World.alloc_heap_new w2 _) (by simp [maxLen])
          have HD := Lib.hid (show (∀ r ∈ [(xa, (1 : Int)), (xn, 1)], liveT n T r = false) ∧ [(xa, (1 : Int)), (xn, 1)].length = 2 + 3 * 0 from ⟨by
            intro r hr
            simp at hr
            rcases hr with rfl | rfl
            · exact dead_out (.inl (by omega))
            · exact dead_out (.inr (by omega)), rfl⟩)
          obtain ⟨i0, hi, hz0, hz1, hz2⟩ := info_parts infoRef
          have hmost := HG.out.2
          have HMOST := Lib.hid hmost
          clear hmost
          generalize hL : (refsT n T).length = L at *
          generalize hF : T.free.length = F at *
          have HL := Lib.hid hL
          have HF := Lib.hid hF
          clear hL hF
          have HRR := Lib.hid hrr2
          have HRD := Lib.hid hrd2
          have HT2 := Lib.hid hT2
          have HS2 := Lib.hid hS2
          clear hrr2 hrd2 hT2 hS2
          go_loopw [115, 21, 23] (fun i bv _ wr => ∃ (j : Nat) (bd : List R), j ≤ L ∧ i = .int .i64 j ∧ wr.ownsRow w2.heap.size 26 2 bv bd.length (refCells bd) ∧ Hid ((∀ r ∈ bd, liveT n T r = false) ∧ bd.length = 2 + 3 * j) ∧ Below w2.heap.size w2 wr) (fun i _ _ _ => L - (intOf i).toNat)
          case atStart => exact ⟨0, [(xa, 1), (xn, 1)], Nat.zero_le _, rfl, hrow, HD, hbl⟩
          case round =>
            clear hrow HD hbl
            obtain ⟨j, bd, hj, rfl, hrow, HD, hB⟩ := hrel
            by_cases hlt : j < L
            · have hltI : (j : Int) < L := by omega
              obtain ⟨wo, rfl⟩ : ∃ wo : World, wo = wr := ⟨_, rfl⟩
              rcases HRR.out.below hB with ⟨a', c', e, hnil⟩ | ⟨b', c', e, -, hbl, hc⟩
              · injection e with _ e _; omega
              · injection e with e1 e2 e3
                subst e1
                have hjr : j < (refsT n T).length := by rw [HL.out]; exact hlt
                obtain ⟨c0, c1⟩ := hc j hjr
                have hmem : (refsT n T)[j]?.getD (0, 0) ∈ refsT n T := by rw [List.getElem?_eq_getElem hjr]; exact List.getElem_mem hjr
                generalize (refsT n T)[j]?.getD (0, 0) = r at *
                obtain ⟨r1, r2⟩ := r
                dsimp only at c0 c1
                obtain ⟨s0, s1, s2, s3⟩ := ref_bds HT2.out.2.1 hmem
                rw [HMOST.out] at s3
                have HDR := Lib.hid (dead_ref HG.out.1 hmem hxc1)
                have hbd := HD.out.2
                clear e2 e3 hc hmem hjr hbl
                have hs3 : (wo.alloc (.cells #[.int .i64 r1, .int .i64 r2] 26)).heap.size = wo.heap.size + 1 := by simp
                have hcell : ∀ (k : Nat) (u : Value), [Value.int .i64 r1, .int .i64 (r2 + 1), .int .i64 r1, .int .i64 (r2 - 1), .int .i64 r1, .int .i64 xc][k]? = some u → ((wo.alloc (.cells #[.int .i64 r1, .int .i64 r2] 26)).alloc (.cells #[.int .i64 r1, .int .i64 (r2 + 1), .int .i64 r1, .int .i64 (r2 - 1), .int .i64 r1, .int .i64 xc] 26)).cell? ((⟨wo.heap.size + 1, 0, none⟩ : Addr).add k) = some u := by
                  intro k u hk
                  have := cell_list (wo.alloc (.cells #[.int .i64 r1, .int .i64 r2] 26)) _ 26 k u hk
                  rw [hs3] at this
                  exact this
                have HC := Lib.hid hcell
                have hz3 := hB.size
                clear hcell
                go_wp2_with (at_builtin; refine wpList_append_own _ rfl _ _ 44 rfl w2.heap.size 26 i0 (.agg #[.int .i64 0, .int .i64 0]) 2 16 Try.underlying44 hi hz0 hz1 hz2 rfl (by decide) _ _ _ rfl ((hrow.alloc _).alloc _) ⟨wo.heap.size + 1, 0, none⟩ 3 3 [.int .i64 r1, .int .i64 (r2 + 1), .int .i64 r1, .int .i64 (r2 - 1), .int .i64 r1, .int .i64 xc] rfl rfl HC.out (by simp [Value.oneCell']) (by unfold maxLen; omega) (by omega) (by simp; omega) ?_; intro v' w4 hown' hgrow _)
                have m1 : Mod (fun k => w2.heap.size ≤ k) wo w4 := (((Mod.refl _ wo).alloc _).alloc _).trans ((Mod.of_grownBy hgrow).mono fun k _ hk => (hrow.lt k hk.symm).1)
                have hB4 := hB.trans (m1.below (Nat.le_trans hB.size (Nat.le_refl _)) (fun k hk e => by omega))
                refine ⟨⟨j + 1, bd ++ [(r1, r2 + 1), (r1, r2 - 1), (r1, xc)], by omega, by simp, ?_, ?_, hB4⟩, ?_⟩
                · rw [show refCells (bd ++ [(r1, r2 + 1), (r1, r2 - 1), (r1, xc)]) = refCells bd ++ [.int .i64 r1, .int .i64 (r2 + 1), .int .i64 r1, .int .i64 (r2 - 1), .int .i64 r1, .int .i64 xc] from by simp [refCells], List.length_append]; exact hown'
                · refine ⟨fun r hr => ?_, by simp; omega⟩
                  rcases List.mem_append.1 hr with hr | hr
                  · exact HD.out.1 r hr
                  · obtain ⟨d1, d2, d3⟩ := HDR.out
                    simp at hr
                    rcases hr with rfl | rfl | rfl <;> assumption
                · simp [intOf]; omega
            · obtain rfl : L = j := by omega
              clear hlt hj
              go_wp2_with fail
              go_loopw [142, 21, 25, 26, 27] (fun i bv _ _ _ wr => ∃ (j4 : Nat) (bd : List R), j4 ≤ F ∧ i = .int .i64 j4 ∧ wr.ownsRow w2.heap.size 26 2 bv bd.length (refCells bd) ∧ Hid ((∀ r ∈ bd, liveT n T r = false) ∧ bd.length = 2 + 3 * L + 2 * j4) ∧ Below w2.heap.size w2 wr) (fun i _ _ _ _ _ => F - (intOf i).toNat)
              case atStart => exact ⟨0, bd, Nat.zero_le _, rfl, hrow, HD, hB⟩
              case round =>
                clear hrow HD hB bd
                obtain ⟨j4, bd, hj4, rfl, hrow, HD, hB⟩ := hrel
                by_cases hlt : j4 < F
                · have hltI : (j4 : Int) < F := by omega
                  obtain ⟨wo, rfl⟩ : ∃ wo : World, wo = wr := ⟨_, rfl⟩
                  have hrdj := HRD.out.mod (S := fun _ => False) (Mod.of_same hB) (by simp)
                  have hjf : j4 < T.free.length := by rw [HF.out]; exact hlt
                  rcases hrdj with ⟨a', c', e, hnil⟩ | ⟨b', off', c', e, -, hc⟩
                  · injection e with _ e _; omega
                  · injection e with e1 e2 e3
                    subst e1
                    have c0 := hc j4 (by simpa using hjf)
                    have hmem : T.free[j4] ∈ T.free := List.getElem_mem hjf
                    rw [show (T.free.map fun x : Nat => (x : Int))[j4]?.getD 0 = ((T.free[j4] : Nat) : Int) from by simp [List.getElem?_eq_getElem hjf]] at c0
                    generalize T.free[j4] = f at *
                    obtain ⟨lk, l0, l1⟩ := look_free HT2.out.2.1 hmem
                    rw [HMOST.out] at l1
                    have HDF := Lib.hid (fun l => dead_free HT2.out.2.1 hmem l)
                    generalize T.lives.getD f 0 = lf at *
                    have LK := Lib.hid lk
                    have hbd := HD.out.2
                    have hTo := HT2.out.below hB
                    clear e2 e3 hc hmem hjf lk
                    go_wp2_with fail
                    refine (Look_any p q n T f _ hTo).mono ?_; rintro e w' ⟨rfl, mm, rfl⟩
                    rw [LK.out]
                    dsimp only
                    have hrow' : (wo.drewN mm).ownsRow w2.heap.size 26 2 _ bd.length (refCells bd) := hrow
                    have m0 : Mod (fun k => w2.heap.size ≤ k) wo (wo.drewN mm) := ⟨rfl, rfl, rfl, Nat.le_refl _, fun _ _ _ => rfl⟩
                    have hz3 : w2.heap.size ≤ (wo.drewN mm).heap.size := hB.size
                    clear hTo c0 hrow
                    generalize wo.drewN mm = wd at *
                    have HC := Lib.hid (cell_list wd [.int .i64 f, .int .i64 lf, .int .i64 f, .int .i64 (lf + 1)] 26)
                    go_wp2_with (at_builtin; refine wpList_append_own _ rfl _ _ 44 rfl w2.heap.size 26 i0 (.agg #[.int .i64 0, .int .i64 0]) 2 16 Try.underlying44 hi hz0 hz1 hz2 rfl (by decide) _ _ _ rfl (hrow'.alloc _) ⟨wd.heap.size, 0, none⟩ 2 2 [.int .i64 f, .int .i64 lf, .int .i64 f, .int .i64 (lf + 1)] rfl rfl HC.out (by simp [Value.oneCell']) (by unfold maxLen; omega) (by omega) (by simp; omega) ?_; intro v' w4 hown' hgrow _)
                    have m1 : Mod (fun k => w2.heap.size ≤ k) wo w4 := (m0.alloc _).trans ((Mod.of_grownBy hgrow).mono fun k _ hk => (hrow'.lt k hk.symm).1)
                    have hB4 := hB.trans (m1.below (Nat.le_trans hB.size (Nat.le_refl _)) (fun k hk e => by omega))
                    refine ⟨⟨j4 + 1, bd ++ [((f : Int), lf), ((f : Int), lf + 1)], by omega, by simp, ?_, ?_, hB4⟩, ?_⟩
                    · rw [show refCells (bd ++ [((f : Int), lf), ((f : Int), lf + 1)]) = refCells bd ++ [.int .i64 f, .int .i64 lf, .int .i64 f, .int .i64 (lf + 1)] from by simp [refCells], List.length_append]; exact hown'
                    · refine ⟨fun r hr => ?_, by simp; omega⟩
                      rcases List.mem_append.1 hr with hr | hr
                      · exact HD.out.1 r hr
                      · simp at hr
                        rcases hr with rfl | rfl <;> exact HDF.out _
                    · simp [intOf]; omega
                · obtain rfl : F = j4 := by omega
                  clear hlt hj4
                  have hbrow := ReadsRefs.of_owns hrow
                  obtain ⟨ab, cb, e⟩ := ownsRow_val hrow
                  subst e
                  have hblen := HD.out.2
                  have hT5 := HT2.out.below hB
                  clear hrow
                  obtain ⟨N, hN⟩ : ∃ N, N = bd.length := ⟨_, rfl⟩
                  rw [← hN] at hbrow hblen ⊢
                  have HN := Lib.hid hN
                  have hNb : N ≤ 202 := by omega
                  clear hblen
                  have HBR := Lib.hid hbrow
                  have HB := Lib.hid hB
                  have HZ2 := Lib.hid (show p < w2.heap.size ∧ q < w2.heap.size from HT2.out.lt)
                  clear hN hbrow hB
                  obtain ⟨ws, hws⟩ : ∃ ws, ws = wr := ⟨_, rfl⟩
                  subst hws
                  go_wp2_with fail
                  go_loopw [165, 29] (fun i _ wr => ∃ (j5 : Nat), j5 ≤ N ∧ i = .int .i64 j5 ∧ TableAt wr p q n T ∧ Mod (fun k => k = p ∨ k = q) ws wr) (fun i _ _ => N - (intOf i).toNat)
                  case atStart => exact ⟨0, Nat.zero_le _, rfl, hT5, Mod.refl _ _⟩
                  case round =>
                    clear hT5
                    obtain ⟨j5, hj5, rfl, hT, hM⟩ := hrel
                    by_cases hlt : j5 < N
                    · have hltI : (j5 : Int) < N := by omega
                      obtain ⟨wo, rfl⟩ : ∃ wo : World, wo = wr := ⟨_, rfl⟩
                      rcases HBR.out.mod hM (fun g hg e => by have := HZ2.out; omega) with ⟨a', c', e, hnil⟩ | ⟨b', c', e, -, hbl, hc⟩
                      · injection e with _ e _; omega
                      · injection e with e1 e2 e3
                        subst e1
                        have hjr : j5 < bd.length := by rw [← HN.out]; exact hlt
                        obtain ⟨c0, c1⟩ := hc j5 hjr
                        have hmem : bd[j5]?.getD (0, 0) ∈ bd := by rw [List.getElem?_eq_getElem hjr]; exact List.getElem_mem hjr
                        have hdead := HD.out.1 _ hmem
                        generalize bd[j5]?.getD (0, 0) = r at *
                        obtain ⟨r1, r2⟩ := r
                        dsimp only at c0 c1
                        have HDE := Lib.hid hdead
                        have hbw : Below wo.heap.size wo (wo.alloc (.cells #[.int .i64 r1, .int .i64 r2] 26)) := (Below.refl _ _).alloc (Nat.le_refl _) _
                        have hT1 := hT.below hbw
                        have hM1 := hM.alloc (.cells #[.int .i64 r1, .int .i64 r2] 26)
                        have hR1 : RefAt (wo.alloc (.cells #[.int .i64 r1, .int .i64 r2] 26)) wo.heap.size (r1, r2) := World.alloc_heap_new wo _
                        clear e2 e3 hc hmem hjr hbl hdead hT hM hbw
                        go_wp2_with fail
                        generalize wo.alloc (.cells #[.int .i64 r1, .int .i64 r2] 26) = wx at *
                        refine (Live_any p q n T r1 r2 _ hT1).mono ?_; rintro e wy ⟨rfl, hby⟩
                        rw [HDE.out]
                        have hT2 := hT1.below hby
                        have hM2 := hM1.trans (Mod.of_same hby)
                        have hR2 : RefAt wy wo.heap.size (r1, r2) := (hby.block _ (Array.getElem?_eq_some_iff.1 hR1).1).trans hR1
                        have d0 := hR2.c0
                        have d1 := hR2.c1
                        clear hT1 hM1 hR1 hR2 hby
                        go_wp2_with fail
                        refine (Give_any p q n T r1 r2 _ hT2).mono ?_; rintro e wv ⟨rfl, hT3, hM3⟩
                        rw [giveT_no HDE.out] at hT3 ⊢
                        dsimp only at hT3 ⊢
                        have hM4 := hM2.trans hM3
                        clear hT2 hM2 hM3 d0 d1
                        go_wp2_with fail
                        go_roundw
                        case rel => exact ⟨j5 + 1, by omega, by go_num, hT3, hM4⟩
                        case measure => simp [intOf]; omega
                    · obtain rfl : N = j5 := by omega
                      clear hlt hj5
                      go_wp2_with fail
                      have hbl6 : Below wr.heap.size wr (wr.alloc (.cells #[.int .i64 xa, .int .i64 xn] 3)) := (Below.refl _ _).alloc (Nat.le_refl _) _
                      have hT6 := hT.below hbl6
                      have hM6 := hM.trans (Mod.of_same hbl6)
                      have H6 := Lib.hid (show (wr.alloc (.cells #[.int .i64 xa, .int .i64 xn] 3)).heap[wr.heap.size]? = some (.cells #[.int .i64 xa, .int .i64 xn] 3 (0, 0)) from World.alloc_heap_new wr _)
                      have hlt6 := hT.lt
                      generalize wr.alloc (.cells #[.int .i64 xa, .int .i64 xn] 3) = wl at *
                      generalize wr.heap.size = B6 at *
                      clear hT hM hbl6 hlt6
                      go_loopw [186, 31, 32, 33] (fun i _ _ _ wr => ∃ (j6 : Nat), j6 ≤ 2 ∧ i = .int .i64 j6 ∧ TableAt wr p q n T ∧ Mod (fun k => k = p ∨ k = q) ws wr ∧ Hid (wr.heap[B6]? = some (.cells #[.int .i64 xa, .int .i64 xn] 3 (0, 0)))) (fun i _ _ _ _ => 2 - (intOf i).toNat)
                      case atStart => exact ⟨0, Nat.zero_le _, rfl, hT6, hM6, H6⟩
                      case round =>
                        clear hT6 hM6 H6
                        obtain ⟨j6, hj6, rfl, hT, hM, H6⟩ := hrel
                        obtain ⟨wo, rfl⟩ : ∃ wo : World, wo = wr := ⟨_, rfl⟩
                        by_cases hlt : j6 < 2
                        · obtain ⟨u, c0, hu⟩ : ∃ u, wo.cell? ⟨B6, j6, none⟩ = some (.int .i64 u) ∧ (u < 0 ∨ n ≤ u) := by
                            have h8 := H6.out
                            rcases (show j6 = 0 ∨ j6 = 1 by omega) with rfl | rfl
                            · exact ⟨xa, by simp [World.cell?, h8], by omega⟩
                            · exact ⟨xn, by simp [World.cell?, h8], by omega⟩
                          have LK := Lib.hid (look_out (T := T) hu)
                          clear hu
                          go_wp2_with fail
                          refine (Look_any p q n T u _ hT).mono ?_; rintro e w' ⟨rfl, mm, rfl⟩
                          rw [LK.out]
                          dsimp only
                          have hT' : TableAt (wo.drewN mm) p q n T := hT
                          have hM' : Mod (fun k => k = p ∨ k = q) ws (wo.drewN mm) := ⟨hM.os, hM.tape, hM.output, hM.size, hM.block⟩
                          have H6' : Hid ((wo.drewN mm).heap[B6]? = some (.cells #[.int .i64 xa, .int .i64 xn] 3 (0, 0))) := H6
                          clear c0 hT hM H6
                          generalize wo.drewN mm = wd at *
                          go_wp2_with fail
                          go_roundw
                          case rel => first | exact ⟨j6 + 1, by omega, by go_num, hT', hM', H6'⟩ | ((repeat apply Exists.intro); exact ⟨⟨j6 + 1, by omega, by go_num, hT', hM', H6'⟩, rfl⟩)
                          case measure => simp [intOf]; omega
                        · obtain rfl : j6 = 2 := by omega
                          have hle : w.heap.size ≤ w2.heap.size := HS2.out.size
                          have hS := (HS2.out.trans (HB.out.mono hle)).trans (hM.below (Nat.le_trans hle HB.out.size) (fun k hk e => by have := HP.out; omega))
                          have hq := (HRR.out.below HB.out).mod hM (fun g hg e => by have := HZ0.out; omega)
                          have hqd := (HRD.out.mod (S := fun _ => False) (Mod.of_same HB.out) (by simp)).mod hM HFB.out
                          have hq0 := hq.base
                          have HQ := Lib.hid hq0
                          have HQD := Lib.hid hqd
                          clear hM hq hqd hq0 hlt hj6
                          go_wp2_with fail
                          refine (Refs_any p q n T _ hT).mono ?_; rintro e y1 ⟨v1, rfl, hr1, hb1⟩
                          have hT1 := hT.below hb1
                          have hS1 := hS.trans (hb1.mono hS.size)
                          have hq1 := HQ.out.below hb1
                          have hqd1 := HQD.out.mod (S := fun _ => False) (Mod.of_same hb1) (by simp)
                          have hrr1 := (ReadsRefs.of_owns hr1).base
                          obtain ⟨u1, c1, e⟩ := ownsRow_val hr1
                          subst e
                          clear hT hS hr1 hb1 HQ HQD
                          go_wp2_with fail
                          refine (EqualRefs_any 0 _ _ (refsT n T) (refsT n T) _ hrr1 hq1 (by rw [HL.out]; omega)).mono ?_; rintro e w' ⟨rfl, m3, rfl⟩
                          rw [show decide (refsT n T = refsT n T) = true from by simp]
                          have hT3 : TableAt (y1.drewN m3) p q n T := hT1
                          have hS3 : Below w.heap.size w (y1.drewN m3) := below_drewN hS1 m3
                          have hqd3 : Reads .i64 (y1.drewN m3) (.slice af F cf) (T.free.map fun x : Nat => (x : Int)) := hqd1
                          clear hT1 hS1 hqd1 hrr1 hq1
                          generalize y1.drewN m3 = y3 at *
                          go_wp2_with fail
                          refine (Free_any p q n T _ hT3).mono ?_; rintro e y4 ⟨v4, rfl, hr4, hb4⟩
                          have hS4 := hS3.trans (hb4.mono hS3.size)
                          have hqd4 := hqd3.mod (S := fun _ => False) (Mod.of_same hb4) (by simp)
                          have hrd4 := Reads.of_owns (zs := T.free.map fun x : Nat => (x : Int)) (by rw [List.map_map]; exact hr4)
                          obtain ⟨u4, c4, e⟩ := ownsRow_val hr4
                          subst e
                          clear hT3 hS3 hr4 hb4 hqd3
                          go_wp2_with fail
                          refine (Equal_any _ _ _ _ _ hrd4 hqd4).mono ?_; rintro e w' ⟨rfl, m6, rfl⟩
                          rw [show decide ((T.free.map fun x : Nat => (x : Int)) = (T.free.map fun x : Nat => (x : Int))) = true from by simp]
                          go_wp2_with fail
                          go_ret
                          exact ⟨rfl, below_drewN hS4 m6⟩


set_option maxHeartbeats 16000000 in
theorem wrong_zero (a0 : Int) (h00 : 0 ≤ a0) (h01 : a0 ≤ 255) (a1 : Int) (h10 : 0 ≤ a1) (h11 : a1 ≤ 255) (x0 : Addr) (cap0 : Nat) (x : Int) (hx0 : -9223372036854775808 ≤ x) (hx1 : x ≤ 9223372036854775807) (w : World) (hcm : cap0 ≤ maxLen) :
    Calls Try.prog 9 #[.int .u8 a0, .int .u8 a1, .slice (some x0) 0 cap0, .int .i64 x] w fun e w' => e = .returned (.bool true) ∧ Below w.heap.size w w' := by
  go_enter Try.func9, Try.ntmps9
  go_wp2_with fail
  refine (awake_any _).mono ?_; rintro e wa ⟨rfl, hba⟩
  go_wp2_with fail
  refine (sizes_any _ _ (by omega) (by omega) (by omega) (by omega) _).mono ?_; rintro e w' ⟨rfl, rfl⟩
  have hn0 : 0 ≤ a0 % 41 := by omega
  have hn1 : a0 % 41 ≤ 40 := by omega
  have hk1 : 1 ≤ 1 + a1 % 6 := by omega
  have hk2 : 1 + a1 % 6 ≤ 6 := by omega
  generalize a0 % 41 = ni at *
  generalize 1 + a1 % 6 = k at *
  obtain ⟨n, rfl⟩ := Int.eq_ofNat_of_zero_le hn0
  clear hn0 h00 h01 h10 h11
  obtain ⟨xa, hxa, hxa0, hxa1⟩ : ∃ a : Int, min x (-1) = a ∧ -9223372036854775808 ≤ a ∧ a ≤ -1 := ⟨_, rfl, by omega, by omega⟩
  obtain ⟨xb, hxb, hxb0, hxb1⟩ : ∃ a : Int, max x 1025 = a ∧ a ≤ 9223372036854775807 ∧ 1025 ≤ a := ⟨_, rfl, by omega, by omega⟩
  obtain ⟨xc, hxc, hxc0, hxc1⟩ : ∃ a : Int, min x 0 = a ∧ -9223372036854775808 ≤ a ∧ a ≤ 0 := ⟨_, rfl, by omega, by omega⟩
  obtain ⟨xd, hxd, hxd0, hxd1⟩ : ∃ a : Int, max x 4294967297 = a ∧ a ≤ 9223372036854775807 ∧ 4294967297 ≤ a := ⟨_, rfl, by omega, by omega⟩
  obtain ⟨xn, hxn, hxn0, hxn1⟩ : ∃ a : Int, max x (n : Int) = a ∧ a ≤ 9223372036854775807 ∧ (n : Int) ≤ a := ⟨_, rfl, by omega, by omega⟩
  go_wp2_with fail
  have hmin : min (0 : Int) 200 = 0 := by decide
  have hL8 : (wa.alloc (.cells #[.int .i64 xa, .int .i64 1, .int .i64 xb, .int .i64 1, .int .i64 1, .int .i64 xc, .int .i64 1, .int .i64 xd] 55)).heap[wa.heap.size]? = some (.cells #[.int .i64 xa, .int .i64 1, .int .i64 xb, .int .i64 1, .int .i64 1, .int .i64 xc, .int .i64 1, .int .i64 xd] 55 (0, 0)) := World.alloc_heap_new wa _
  have hba' := hba.alloc (by exact hba.size) (.cells #[.int .i64 xa, .int .i64 1, .int .i64 xb, .int .i64 1, .int .i64 1, .int .i64 xc, .int .i64 1, .int .i64 xd] 55)
  generalize wa.alloc (.cells #[.int .i64 xa, .int .i64 1, .int .i64 xb, .int .i64 1, .int .i64 1, .int .i64 xc, .int .i64 1, .int .i64 xd] 55) = wb at *
  have hsz := hba.size
  generalize wa.heap.size = B8 at *
  have H8 := Lib.hid hL8
  clear hL8 hba
  go_loopw [56, 12, 13, 14] (fun i _ _ _ wr => ∃ (j : Nat), j ≤ 4 ∧ i = .int .i64 j ∧ Hid (wr.heap[B8]? = some (.cells #[.int .i64 xa, .int .i64 1, .int .i64 xb, .int .i64 1, .int .i64 1, .int .i64 xc, .int .i64 1, .int .i64 xd] 55 (0, 0))) ∧ Below w.heap.size w wr) (fun i _ _ _ _ => 4 - (intOf i).toNat)
  case atStart => exact ⟨0, Nat.zero_le _, rfl, H8, hba'⟩
  case round =>
    clear H8 hba'
    obtain ⟨j, hj, rfl, H8, hS⟩ := hrel
    by_cases hlt : j < 4
    · obtain ⟨wo, rfl⟩ : ∃ wo : World, wo = wr := ⟨_, rfl⟩
      obtain ⟨u, v, c0, c1, hno⟩ : ∃ u v, wo.cell? ⟨B8, j * 2, none⟩ = some (.int .i64 u) ∧ wo.cell? ⟨B8, j * 2 + 1, none⟩ = some (.int .i64 v) ∧ ¬ (0 ≤ u ∧ u ≤ 1024 ∧ 1 ≤ v ∧ v ≤ 4294967296) := by
        have h8 := H8.out
        rcases (show j = 0 ∨ j = 1 ∨ j = 2 ∨ j = 3 by omega) with rfl | rfl | rfl | rfl
        · exact ⟨xa, 1, by simp [World.cell?, h8], by simp [World.cell?, h8], by omega⟩
        · exact ⟨xb, 1, by simp [World.cell?, h8], by simp [World.cell?, h8], by omega⟩
        · exact ⟨1, xc, by simp [World.cell?, h8], by simp [World.cell?, h8], by omega⟩
        · exact ⟨1, xd, by simp [World.cell?, h8], by simp [World.cell?, h8], by omega⟩
      have HNO := Lib.hid hno
      have hbl : Below wo.heap.size wo (wo.alloc (.cells #[.int .i64 u, .int .i64 v] 55)) := (Below.refl _ _).alloc (Nat.le_refl _) _
      have hS' := hS.trans (hbl.mono hS.size)
      have H8' := Lib.hid ((hbl.block B8 (Array.getElem?_eq_some_iff.1 H8.out).1).trans H8.out)
      clear hno hS hbl H8
      go_wp2_with fail
      refine (New_no u v _ HNO.out).mono ?_; rintro e w' ⟨rfl, rfl⟩
      go_wp2_with fail
      go_roundw
      case rel => exact ⟨j + 1, by omega, by go_num, H8', hS'⟩
      case measure => simp [intOf]; omega
    · obtain rfl : j = 4 := by omega
      clear hlt H8 hj
      go_wp2_with fail
      refine (New_yes n _ _ (by omega) (by omega)).mono ?_; rintro e wc ⟨rfl, hT, hBa⟩
      have hS1 := hS.trans (hBa.mono hS.size)
      have hsz2 := hS.size
      have hlt2 := hT.lt
      obtain ⟨p, hp⟩ : ∃ p, p = wr.heap.size + 1 := ⟨_, rfl⟩
      rw [← hp] at hT hlt2 ⊢
      have hsz' : w.heap.size ≤ p := by omega
      generalize wr.heap.size = q at *
      have HP := Lib.hid (show w.heap.size ≤ q ∧ w.heap.size ≤ p ∧ p < wc.heap.size ∧ q < wc.heap.size from ⟨hsz2, hsz', hlt2⟩)
      have HG := Lib.hid (show Good n (newT n k) ∧ (newT n k).most = k from ⟨new_good n k, rfl⟩)
      clear hBa hS hsz hsz2 hp hsz' hlt2
      go_wp2_with fail
      go_loopw [93, 18] (fun i _ wr => ∃ (j : Nat) (T : Tab), j ≤ 0 ∧ i = .int .i64 j ∧ TableAt wr p q n T ∧ Hid (Good n T ∧ T.most = k) ∧ Below w.heap.size w wr) (fun i _ _ => 0 - (intOf i).toNat)
      case atStart => exact ⟨0, _, Nat.zero_le _, rfl, hT, HG, hS1⟩
      case round =>
        clear hT HG hS1
        obtain ⟨j, T, hj, rfl, hT, HG, hS⟩ := hrel
        by_cases hlt : j < 0
        · exact absurd hlt (by omega)
        · obtain rfl : j = 0 := by omega
          clear hlt hj
          go_wp2_with fail
          refine (Refs_any p q n T _ hT).mono ?_; rintro e w1 ⟨v1, rfl, hr1, hb1⟩
          have hT1 := hT.below hb1
          have hS1 := hS.trans (hb1.mono hS.size)
          have hrr1 := ReadsRefs.of_owns hr1
          obtain ⟨ar, cr, rfl⟩ := ownsRow_val hr1
          have hz0 := hT.lt
          have hb1s := hb1.size
          have HZ0 := Lib.hid hz0
          clear hT hS hr1 hb1 hz0
          go_wp2_with fail
          refine (Free_any p q n T _ hT1).mono ?_; rintro e w2 ⟨v2, rfl, hr2, hb2⟩
          have hT2 := hT1.below hb2
          have hS2 := hS1.trans (hb2.mono hS1.size)
          have hrr2 := hrr1.below hb2
          have hrd2 := Reads.of_owns (zs := T.free.map fun x : Nat => (x : Int)) (by rw [List.map_map]; exact hr2)
          have hfb : ∀ g, v2.ownBlock = some g → ¬ (g = p ∨ g = q) := fun g e => by have := (hr2.lt g e).1; have := hb1s; have := HZ0.out; omega
          obtain ⟨af, cf, rfl⟩ := ownsRow_val hr2
          have HFB := Lib.hid hfb
          have hfl := free_le hT2.2.1
          have hrl := refs_le n T
          clear hT1 hS1 hr2 hb2 hrr1 hfb hb1s
          go_wp2_with fail
          have hz := hS2.size
          have hbl : Below w2.heap.size w2 (w2.alloc (.cells #[.int .i64 xa, .int .i64 1, .int .i64 xn, .int .i64 1] 26)) := (Below.refl _ _).alloc (Nat.le_refl _) _
          have hrow : (w2.alloc (.cells #[.int .i64 xa, .int .i64 1, .int .i64 xn, .int .i64 1] 26)).ownsRow w2.heap.size 26 2 (.slice (some ⟨w2.heap.size, 0, none⟩) 2 2) 2 (refCells [(xa, 1), (xn, 1)]) := owns_lit (l := [(xa, 1), (xn, 1)]) (World.alloc_heap_new w2 _) (by simp [maxLen])
          have HD := Lib.hid (show (∀ r ∈ [(xa, (1 : Int)), (xn, 1)], liveT n T r = false) ∧ [(xa, (1 : Int)), (xn, 1)].length = 2 + 3 * 0 from ⟨by
            intro r hr
            simp at hr
            rcases hr with rfl | rfl
            · exact dead_out (.inl (by omega))
            · exact dead_out (.inr (by omega)), rfl⟩)
          obtain ⟨i0, hi, hz0, hz1, hz2⟩ := info_parts infoRef
          have hmost := HG.out.2
          have HMOST := Lib.hid hmost
          clear hmost
          generalize hL : (refsT n T).length = L at *
          generalize hF : T.free.length = F at *
          have HL := Lib.hid hL
          have HF := Lib.hid hF
          clear hL hF
          have HRR := Lib.hid hrr2
          have HRD := Lib.hid hrd2
          have HT2 := Lib.hid hT2
          have HS2 := Lib.hid hS2
          clear hrr2 hrd2 hT2 hS2
          go_loopw [115, 21, 23] (fun i bv _ wr => ∃ (j : Nat) (bd : List R), j ≤ L ∧ i = .int .i64 j ∧ wr.ownsRow w2.heap.size 26 2 bv bd.length (refCells bd) ∧ Hid ((∀ r ∈ bd, liveT n T r = false) ∧ bd.length = 2 + 3 * j) ∧ Below w2.heap.size w2 wr) (fun i _ _ _ => L - (intOf i).toNat)
          case atStart => exact ⟨0, [(xa, 1), (xn, 1)], Nat.zero_le _, rfl, hrow, HD, hbl⟩
          case round =>
            clear hrow HD hbl
            obtain ⟨j, bd, hj, rfl, hrow, HD, hB⟩ := hrel
            by_cases hlt : j < L
            · have hltI : (j : Int) < L := by omega
              obtain ⟨wo, rfl⟩ : ∃ wo : World, wo = wr := ⟨_, rfl⟩
              rcases HRR.out.below hB with ⟨a', c', e, hnil⟩ | ⟨b', c', e, -, hbl, hc⟩
              · injection e with _ e _; omega
              · injection e with e1 e2 e3
                subst e1
                have hjr : j < (refsT n T).length := by rw [HL.out]; exact hlt
                obtain ⟨c0, c1⟩ := hc j hjr
                have hmem : (refsT n T)[j]?.getD (0, 0) ∈ refsT n T := by rw [List.getElem?_eq_getElem hjr]; exact List.getElem_mem hjr
                generalize (refsT n T)[j]?.getD (0, 0) = r at *
                obtain ⟨r1, r2⟩ := r
                dsimp only at c0 c1
                obtain ⟨s0, s1, s2, s3⟩ := ref_bds HT2.out.2.1 hmem
                rw [HMOST.out] at s3
                have HDR := Lib.hid (dead_ref HG.out.1 hmem hxc1)
                have hbd := HD.out.2
                clear e2 e3 hc hmem hjr hbl
                have hs3 : (wo.alloc (.cells #[.int .i64 r1, .int .i64 r2] 26)).heap.size = wo.heap.size + 1 := by simp
                have hcell : ∀ (k : Nat) (u : Value), [Value.int .i64 r1, .int .i64 (r2 + 1), .int .i64 r1, .int .i64 (r2 - 1), .int .i64 r1, .int .i64 xc][k]? = some u → ((wo.alloc (.cells #[.int .i64 r1, .int .i64 r2] 26)).alloc (.cells #[.int .i64 r1, .int .i64 (r2 + 1), .int .i64 r1, .int .i64 (r2 - 1), .int .i64 r1, .int .i64 xc] 26)).cell? ((⟨wo.heap.size + 1, 0, none⟩ : Addr).add k) = some u := by
                  intro k u hk
                  have := cell_list (wo.alloc (.cells #[.int .i64 r1, .int .i64 r2] 26)) _ 26 k u hk
                  rw [hs3] at this
                  exact this
                have HC := Lib.hid hcell
                have hz3 := hB.size
                clear hcell
                go_wp2_with (at_builtin; refine wpList_append_own _ rfl _ _ 44 rfl w2.heap.size 26 i0 (.agg #[.int .i64 0, .int .i64 0]) 2 16 Try.underlying44 hi hz0 hz1 hz2 rfl (by decide) _ _ _ rfl ((hrow.alloc _).alloc _) ⟨wo.heap.size + 1, 0, none⟩ 3 3 [.int .i64 r1, .int .i64 (r2 + 1), .int .i64 r1, .int .i64 (r2 - 1), .int .i64 r1, .int .i64 xc] rfl rfl HC.out (by simp [Value.oneCell']) (by unfold maxLen; omega) (by omega) (by simp; omega) ?_; intro v' w4 hown' hgrow _)
                have m1 : Mod (fun k => w2.heap.size ≤ k) wo w4 := (((Mod.refl _ wo).alloc _).alloc _).trans ((Mod.of_grownBy hgrow).mono fun k _ hk => (hrow.lt k hk.symm).1)
                have hB4 := hB.trans (m1.below (Nat.le_trans hB.size (Nat.le_refl _)) (fun k hk e => by omega))
                refine ⟨⟨j + 1, bd ++ [(r1, r2 + 1), (r1, r2 - 1), (r1, xc)], by omega, by simp, ?_, ?_, hB4⟩, ?_⟩
                · rw [show refCells (bd ++ [(r1, r2 + 1), (r1, r2 - 1), (r1, xc)]) = refCells bd ++ [.int .i64 r1, .int .i64 (r2 + 1), .int .i64 r1, .int .i64 (r2 - 1), .int .i64 r1, .int .i64 xc] from by simp [refCells], List.length_append]; exact hown'
                · refine ⟨fun r hr => ?_, by simp; omega⟩
                  rcases List.mem_append.1 hr with hr | hr
                  · exact HD.out.1 r hr
                  · obtain ⟨d1, d2, d3⟩ := HDR.out
                    simp at hr
                    rcases hr with rfl | rfl | rfl <;> assumption
                · simp [intOf]; omega
            · obtain rfl : L = j := by omega
              clear hlt hj
              go_wp2_with fail
              go_loopw [142, 21, 25, 26, 27] (fun i bv _ _ _ wr => ∃ (j4 : Nat) (bd : List R), j4 ≤ F ∧ i = .int .i64 j4 ∧ wr.ownsRow w2.heap.size 26 2 bv bd.length (refCells bd) ∧ Hid ((∀ r ∈ bd, liveT n T r = false) ∧ bd.length = 2 + 3 * L + 2 * j4) ∧ Below w2.heap.size w2 wr) (fun i _ _ _ _ _ => F - (intOf i).toNat)
              case atStart => exact ⟨0, bd, Nat.zero_le _, rfl, hrow, HD, hB⟩
              case round =>
                clear hrow HD hB bd
                obtain ⟨j4, bd, hj4, rfl, hrow, HD, hB⟩ := hrel
                by_cases hlt : j4 < F
                · have hltI : (j4 : Int) < F := by omega
                  obtain ⟨wo, rfl⟩ : ∃ wo : World, wo = wr := ⟨_, rfl⟩
                  have hrdj := HRD.out.mod (S := fun _ => False) (Mod.of_same hB) (by simp)
                  have hjf : j4 < T.free.length := by rw [HF.out]; exact hlt
                  rcases hrdj with ⟨a', c', e, hnil⟩ | ⟨b', off', c', e, -, hc⟩
                  · injection e with _ e _; omega
                  · injection e with e1 e2 e3
                    subst e1
                    have c0 := hc j4 (by simpa using hjf)
                    have hmem : T.free[j4] ∈ T.free := List.getElem_mem hjf
                    rw [show (T.free.map fun x : Nat => (x : Int))[j4]?.getD 0 = ((T.free[j4] : Nat) : Int) from by simp [List.getElem?_eq_getElem hjf]] at c0
                    generalize T.free[j4] = f at *
                    obtain ⟨lk, l0, l1⟩ := look_free HT2.out.2.1 hmem
                    rw [HMOST.out] at l1
                    have HDF := Lib.hid (fun l => dead_free HT2.out.2.1 hmem l)
                    generalize T.lives.getD f 0 = lf at *
                    have LK := Lib.hid lk
                    have hbd := HD.out.2
                    have hTo := HT2.out.below hB
                    clear e2 e3 hc hmem hjf lk
                    go_wp2_with fail
                    refine (Look_any p q n T f _ hTo).mono ?_; rintro e w' ⟨rfl, mm, rfl⟩
                    rw [LK.out]
                    dsimp only
                    have hrow' : (wo.drewN mm).ownsRow w2.heap.size 26 2 _ bd.length (refCells bd) := hrow
                    have m0 : Mod (fun k => w2.heap.size ≤ k) wo (wo.drewN mm) := ⟨rfl, rfl, rfl, Nat.le_refl _, fun _ _ _ => rfl⟩
                    have hz3 : w2.heap.size ≤ (wo.drewN mm).heap.size := hB.size
                    clear hTo c0 hrow
                    generalize wo.drewN mm = wd at *
                    have HC := Lib.hid (cell_list wd [.int .i64 f, .int .i64 lf, .int .i64 f, .int .i64 (lf + 1)] 26)
                    go_wp2_with (at_builtin; refine wpList_append_own _ rfl _ _ 44 rfl w2.heap.size 26 i0 (.agg #[.int .i64 0, .int .i64 0]) 2 16 Try.underlying44 hi hz0 hz1 hz2 rfl (by decide) _ _ _ rfl (hrow'.alloc _) ⟨wd.heap.size, 0, none⟩ 2 2 [.int .i64 f, .int .i64 lf, .int .i64 f, .int .i64 (lf + 1)] rfl rfl HC.out (by simp [Value.oneCell']) (by unfold maxLen; omega) (by omega) (by simp; omega) ?_; intro v' w4 hown' hgrow _)
                    have m1 : Mod (fun k => w2.heap.size ≤ k) wo w4 := (m0.alloc _).trans ((Mod.of_grownBy hgrow).mono fun k _ hk => (hrow'.lt k hk.symm).1)
                    have hB4 := hB.trans (m1.below (Nat.le_trans hB.size (Nat.le_refl _)) (fun k hk e => by omega))
                    refine ⟨⟨j4 + 1, bd ++ [((f : Int), lf), ((f : Int), lf + 1)], by omega, by simp, ?_, ?_, hB4⟩, ?_⟩
                    · rw [show refCells (bd ++ [((f : Int), lf), ((f : Int), lf + 1)]) = refCells bd ++ [.int .i64 f, .int .i64 lf, .int .i64 f, .int .i64 (lf + 1)] from by simp [refCells], List.length_append]; exact hown'
                    · refine ⟨fun r hr => ?_, by simp; omega⟩
                      rcases List.mem_append.1 hr with hr | hr
                      · exact HD.out.1 r hr
                      · simp at hr
                        rcases hr with rfl | rfl <;> exact HDF.out _
                    · simp [intOf]; omega
                · obtain rfl : F = j4 := by omega
                  clear hlt hj4
                  have hbrow := ReadsRefs.of_owns hrow
                  obtain ⟨ab, cb, e⟩ := ownsRow_val hrow
                  subst e
                  have hblen := HD.out.2
                  have hT5 := HT2.out.below hB
                  clear hrow
                  obtain ⟨N, hN⟩ : ∃ N, N = bd.length := ⟨_, rfl⟩
                  rw [← hN] at hbrow hblen ⊢
                  have HN := Lib.hid hN
                  have hNb : N ≤ 202 := by omega
                  clear hblen
                  have HBR := Lib.hid hbrow
                  have HB := Lib.hid hB
                  have HZ2 := Lib.hid (show p < w2.heap.size ∧ q < w2.heap.size from HT2.out.lt)
                  clear hN hbrow hB
                  obtain ⟨ws, hws⟩ : ∃ ws, ws = wr := ⟨_, rfl⟩
                  subst hws
                  go_wp2_with fail
                  go_loopw [165, 29] (fun i _ wr => ∃ (j5 : Nat), j5 ≤ N ∧ i = .int .i64 j5 ∧ TableAt wr p q n T ∧ Mod (fun k => k = p ∨ k = q) ws wr) (fun i _ _ => N - (intOf i).toNat)
                  case atStart => exact ⟨0, Nat.zero_le _, rfl, hT5, Mod.refl _ _⟩
                  case round =>
                    clear hT5
                    obtain ⟨j5, hj5, rfl, hT, hM⟩ := hrel
                    by_cases hlt : j5 < N
                    · have hltI : (j5 : Int) < N := by omega
                      obtain ⟨wo, rfl⟩ : ∃ wo : World, wo = wr := ⟨_, rfl⟩
                      rcases HBR.out.mod hM (fun g hg e => by have := HZ2.out; omega) with ⟨a', c', e, hnil⟩ | ⟨b', c', e, -, hbl, hc⟩
                      · injection e with _ e _; omega
                      · injection e with e1 e2 e3
                        subst e1
                        have hjr : j5 < bd.length := by rw [← HN.out]; exact hlt
                        obtain ⟨c0, c1⟩ := hc j5 hjr
                        have hmem : bd[j5]?.getD (0, 0) ∈ bd := by rw [List.getElem?_eq_getElem hjr]; exact List.getElem_mem hjr
                        have hdead := HD.out.1 _ hmem
                        generalize bd[j5]?.getD (0, 0) = r at *
                        obtain ⟨r1, r2⟩ := r
                        dsimp only at c0 c1
                        have HDE := Lib.hid hdead
                        have hbw : Below wo.heap.size wo (wo.alloc (.cells #[.int .i64 r1, .int .i64 r2] 26)) := (Below.refl _ _).alloc (Nat.le_refl _) _
                        have hT1 := hT.below hbw
                        have hM1 := hM.alloc (.cells #[.int .i64 r1, .int .i64 r2] 26)
                        have hR1 : RefAt (wo.alloc (.cells #[.int .i64 r1, .int .i64 r2] 26)) wo.heap.size (r1, r2) := World.alloc_heap_new wo _
                        clear e2 e3 hc hmem hjr hbl hdead hT hM hbw
                        go_wp2_with fail
                        generalize wo.alloc (.cells #[.int .i64 r1, .int .i64 r2] 26) = wx at *
                        refine (Live_any p q n T r1 r2 _ hT1).mono ?_; rintro e wy ⟨rfl, hby⟩
                        rw [HDE.out]
                        have hT2 := hT1.below hby
                        have hM2 := hM1.trans (Mod.of_same hby)
                        have hR2 : RefAt wy wo.heap.size (r1, r2) := (hby.block _ (Array.getElem?_eq_some_iff.1 hR1).1).trans hR1
                        have d0 := hR2.c0
                        have d1 := hR2.c1
                        clear hT1 hM1 hR1 hR2 hby
                        go_wp2_with fail
                        refine (Give_any p q n T r1 r2 _ hT2).mono ?_; rintro e wv ⟨rfl, hT3, hM3⟩
                        rw [giveT_no HDE.out] at hT3 ⊢
                        dsimp only at hT3 ⊢
                        have hM4 := hM2.trans hM3
                        clear hT2 hM2 hM3 d0 d1
                        go_wp2_with fail
                        go_roundw
                        case rel => exact ⟨j5 + 1, by omega, by go_num, hT3, hM4⟩
                        case measure => simp [intOf]; omega
                    · obtain rfl : N = j5 := by omega
                      clear hlt hj5
                      go_wp2_with fail
                      have hbl6 : Below wr.heap.size wr (wr.alloc (.cells #[.int .i64 xa, .int .i64 xn] 3)) := (Below.refl _ _).alloc (Nat.le_refl _) _
                      have hT6 := hT.below hbl6
                      have hM6 := hM.trans (Mod.of_same hbl6)
                      have H6 := Lib.hid (show (wr.alloc (.cells #[.int .i64 xa, .int .i64 xn] 3)).heap[wr.heap.size]? = some (.cells #[.int .i64 xa, .int .i64 xn] 3 (0, 0)) from World.alloc_heap_new wr _)
                      have hlt6 := hT.lt
                      generalize wr.alloc (.cells #[.int .i64 xa, .int .i64 xn] 3) = wl at *
                      generalize wr.heap.size = B6 at *
                      clear hT hM hbl6 hlt6
                      go_loopw [186, 31, 32, 33] (fun i _ _ _ wr => ∃ (j6 : Nat), j6 ≤ 2 ∧ i = .int .i64 j6 ∧ TableAt wr p q n T ∧ Mod (fun k => k = p ∨ k = q) ws wr ∧ Hid (wr.heap[B6]? = some (.cells #[.int .i64 xa, .int .i64 xn] 3 (0, 0)))) (fun i _ _ _ _ => 2 - (intOf i).toNat)
                      case atStart => exact ⟨0, Nat.zero_le _, rfl, hT6, hM6, H6⟩
                      case round =>
                        clear hT6 hM6 H6
                        obtain ⟨j6, hj6, rfl, hT, hM, H6⟩ := hrel
                        obtain ⟨wo, rfl⟩ : ∃ wo : World, wo = wr := ⟨_, rfl⟩
                        by_cases hlt : j6 < 2
                        · obtain ⟨u, c0, hu⟩ : ∃ u, wo.cell? ⟨B6, j6, none⟩ = some (.int .i64 u) ∧ (u < 0 ∨ n ≤ u) := by
                            have h8 := H6.out
                            rcases (show j6 = 0 ∨ j6 = 1 by omega) with rfl | rfl
                            · exact ⟨xa, by simp [World.cell?, h8], by omega⟩
                            · exact ⟨xn, by simp [World.cell?, h8], by omega⟩
                          have LK := Lib.hid (look_out (T := T) hu)
                          clear hu
                          go_wp2_with fail
                          refine (Look_any p q n T u _ hT).mono ?_; rintro e w' ⟨rfl, mm, rfl⟩
                          rw [LK.out]
                          dsimp only
                          have hT' : TableAt (wo.drewN mm) p q n T := hT
                          have hM' : Mod (fun k => k = p ∨ k = q) ws (wo.drewN mm) := ⟨hM.os, hM.tape, hM.output, hM.size, hM.block⟩
                          have H6' : Hid ((wo.drewN mm).heap[B6]? = some (.cells #[.int .i64 xa, .int .i64 xn] 3 (0, 0))) := H6
                          clear c0 hT hM H6
                          generalize wo.drewN mm = wd at *
                          go_wp2_with fail
                          go_roundw
                          case rel => first | exact ⟨j6 + 1, by omega, by go_num, hT', hM', H6'⟩ | ((repeat apply Exists.intro); exact ⟨⟨j6 + 1, by omega, by go_num, hT', hM', H6'⟩, rfl⟩)
                          case measure => simp [intOf]; omega
                        · obtain rfl : j6 = 2 := by omega
                          have hle : w.heap.size ≤ w2.heap.size := HS2.out.size
                          have hS := (HS2.out.trans (HB.out.mono hle)).trans (hM.below (Nat.le_trans hle HB.out.size) (fun k hk e => by have := HP.out; omega))
                          have hq := (HRR.out.below HB.out).mod hM (fun g hg e => by have := HZ0.out; omega)
                          have hqd := (HRD.out.mod (S := fun _ => False) (Mod.of_same HB.out) (by simp)).mod hM HFB.out
                          have hq0 := hq.base
                          have HQ := Lib.hid hq0
                          have HQD := Lib.hid hqd
                          clear hM hq hqd hq0 hlt hj6
                          go_wp2_with fail
                          refine (Refs_any p q n T _ hT).mono ?_; rintro e y1 ⟨v1, rfl, hr1, hb1⟩
                          have hT1 := hT.below hb1
                          have hS1 := hS.trans (hb1.mono hS.size)
                          have hq1 := HQ.out.below hb1
                          have hqd1 := HQD.out.mod (S := fun _ => False) (Mod.of_same hb1) (by simp)
                          have hrr1 := (ReadsRefs.of_owns hr1).base
                          obtain ⟨u1, c1, e⟩ := ownsRow_val hr1
                          subst e
                          clear hT hS hr1 hb1 HQ HQD
                          go_wp2_with fail
                          refine (EqualRefs_any 0 _ _ (refsT n T) (refsT n T) _ hrr1 hq1 (by rw [HL.out]; omega)).mono ?_; rintro e w' ⟨rfl, m3, rfl⟩
                          rw [show decide (refsT n T = refsT n T) = true from by simp]
                          have hT3 : TableAt (y1.drewN m3) p q n T := hT1
                          have hS3 : Below w.heap.size w (y1.drewN m3) := below_drewN hS1 m3
                          have hqd3 : Reads .i64 (y1.drewN m3) (.slice af F cf) (T.free.map fun x : Nat => (x : Int)) := hqd1
                          clear hT1 hS1 hqd1 hrr1 hq1
                          generalize y1.drewN m3 = y3 at *
                          go_wp2_with fail
                          refine (Free_any p q n T _ hT3).mono ?_; rintro e y4 ⟨v4, rfl, hr4, hb4⟩
                          have hS4 := hS3.trans (hb4.mono hS3.size)
                          have hqd4 := hqd3.mod (S := fun _ => False) (Mod.of_same hb4) (by simp)
                          have hrd4 := Reads.of_owns (zs := T.free.map fun x : Nat => (x : Int)) (by rw [List.map_map]; exact hr4)
                          obtain ⟨u4, c4, e⟩ := ownsRow_val hr4
                          subst e
                          clear hT3 hS3 hr4 hb4 hqd3
                          go_wp2_with fail
                          refine (Equal_any _ _ _ _ _ hrd4 hqd4).mono ?_; rintro e w' ⟨rfl, m6, rfl⟩
                          rw [show decide ((T.free.map fun x : Nat => (x : Int)) = (T.free.map fun x : Nat => (x : Int))) = true from by simp]
                          go_wp2_with fail
                          go_ret
                          exact ⟨rfl, below_drewN hS4 m6⟩


set_option maxHeartbeats 16000000 in
theorem wrong_some (a0 : Int) (h00 : 0 ≤ a0) (h01 : a0 ≤ 255) (a1 : Int) (h10 : 0 ≤ a1) (h11 : a1 ≤ 255) (b off len cap : Nat) (z : List Int) (x : Int) (hx0 : -9223372036854775808 ≤ x) (hx1 : x ≤ 9223372036854775807) (w : World) (hcw : ∀ i (w' : World), Below w.heap.size w w' → i < len → w'.cell? ⟨b, off + i, none⟩ = some (.int .u8 (z.getD i 0))) (hyb : ∀ i, i < len → 0 ≤ z.getD i 0 ∧ z.getD i 0 < 256) (hl : len ≤ cap) (hpos : 1 ≤ len) (hm : cap ≤ maxLen) :
    Calls Try.prog 9 #[.int .u8 a0, .int .u8 a1, .slice (some ⟨b, off, none⟩) len cap, .int .i64 x] w fun e w' => e = .returned (.bool true) ∧ Below w.heap.size w w' := by
  go_enter Try.func9, Try.ntmps9
  go_wp2_with fail
  refine (awake_any _).mono ?_; rintro e wa ⟨rfl, hba⟩
  go_wp2_with fail
  refine (sizes_any _ _ (by omega) (by omega) (by omega) (by omega) _).mono ?_; rintro e w' ⟨rfl, rfl⟩
  have hn0 : 0 ≤ a0 % 41 := by omega
  have hn1 : a0 % 41 ≤ 40 := by omega
  have hk1 : 1 ≤ 1 + a1 % 6 := by omega
  have hk2 : 1 + a1 % 6 ≤ 6 := by omega
  generalize a0 % 41 = ni at *
  generalize 1 + a1 % 6 = k at *
  obtain ⟨n, rfl⟩ := Int.eq_ofNat_of_zero_le hn0
  clear hn0 h00 h01 h10 h11
  obtain ⟨xa, hxa, hxa0, hxa1⟩ : ∃ a : Int, min x (-1) = a ∧ -9223372036854775808 ≤ a ∧ a ≤ -1 := ⟨_, rfl, by omega, by omega⟩
  obtain ⟨xb, hxb, hxb0, hxb1⟩ : ∃ a : Int, max x 1025 = a ∧ a ≤ 9223372036854775807 ∧ 1025 ≤ a := ⟨_, rfl, by omega, by omega⟩
  obtain ⟨xc, hxc, hxc0, hxc1⟩ : ∃ a : Int, min x 0 = a ∧ -9223372036854775808 ≤ a ∧ a ≤ 0 := ⟨_, rfl, by omega, by omega⟩
  obtain ⟨xd, hxd, hxd0, hxd1⟩ : ∃ a : Int, max x 4294967297 = a ∧ a ≤ 9223372036854775807 ∧ 4294967297 ≤ a := ⟨_, rfl, by omega, by omega⟩
  obtain ⟨xn, hxn, hxn0, hxn1⟩ : ∃ a : Int, max x (n : Int) = a ∧ a ≤ 9223372036854775807 ∧ (n : Int) ≤ a := ⟨_, rfl, by omega, by omega⟩
  go_wp2_with fail
  have HCW := Lib.hid hcw
  have HXB := Lib.hid hyb
  clear hcw hyb
  obtain ⟨m, hmin, hml, hm2⟩ : ∃ m : Nat, min (len : Int) 200 = m ∧ m ≤ len ∧ m ≤ 200 := ⟨(min (len : Int) 200).toNat, by omega, by omega, by omega⟩
  have hmc : m ≤ cap := by omega
  have hL8 : (wa.alloc (.cells #[.int .i64 xa, .int .i64 1, .int .i64 xb, .int .i64 1, .int .i64 1, .int .i64 xc, .int .i64 1, .int .i64 xd] 55)).heap[wa.heap.size]? = some (.cells #[.int .i64 xa, .int .i64 1, .int .i64 xb, .int .i64 1, .int .i64 1, .int .i64 xc, .int .i64 1, .int .i64 xd] 55 (0, 0)) := World.alloc_heap_new wa _
  have hba' := hba.alloc (by exact hba.size) (.cells #[.int .i64 xa, .int .i64 1, .int .i64 xb, .int .i64 1, .int .i64 1, .int .i64 xc, .int .i64 1, .int .i64 xd] 55)
  generalize wa.alloc (.cells #[.int .i64 xa, .int .i64 1, .int .i64 xb, .int .i64 1, .int .i64 1, .int .i64 xc, .int .i64 1, .int .i64 xd] 55) = wb at *
  have hsz := hba.size
  generalize wa.heap.size = B8 at *
  have H8 := Lib.hid hL8
  clear hL8 hba
  go_loopw [56, 12, 13, 14] (fun i _ _ _ wr => ∃ (j : Nat), j ≤ 4 ∧ i = .int .i64 j ∧ Hid (wr.heap[B8]? = some (.cells #[.int .i64 xa, .int .i64 1, .int .i64 xb, .int .i64 1, .int .i64 1, .int .i64 xc, .int .i64 1, .int .i64 xd] 55 (0, 0))) ∧ Below w.heap.size w wr) (fun i _ _ _ _ => 4 - (intOf i).toNat)
  case atStart => exact ⟨0, Nat.zero_le _, rfl, H8, hba'⟩
  case round =>
    clear H8 hba'
    obtain ⟨j, hj, rfl, H8, hS⟩ := hrel
    by_cases hlt : j < 4
    · obtain ⟨wo, rfl⟩ : ∃ wo : World, wo = wr := ⟨_, rfl⟩
      obtain ⟨u, v, c0, c1, hno⟩ : ∃ u v, wo.cell? ⟨B8, j * 2, none⟩ = some (.int .i64 u) ∧ wo.cell? ⟨B8, j * 2 + 1, none⟩ = some (.int .i64 v) ∧ ¬ (0 ≤ u ∧ u ≤ 1024 ∧ 1 ≤ v ∧ v ≤ 4294967296) := by
        have h8 := H8.out
        rcases (show j = 0 ∨ j = 1 ∨ j = 2 ∨ j = 3 by omega) with rfl | rfl | rfl | rfl
        · exact ⟨xa, 1, by simp [World.cell?, h8], by simp [World.cell?, h8], by omega⟩
        · exact ⟨xb, 1, by simp [World.cell?, h8], by simp [World.cell?, h8], by omega⟩
        · exact ⟨1, xc, by simp [World.cell?, h8], by simp [World.cell?, h8], by omega⟩
        · exact ⟨1, xd, by simp [World.cell?, h8], by simp [World.cell?, h8], by omega⟩
      have HNO := Lib.hid hno
      have hbl : Below wo.heap.size wo (wo.alloc (.cells #[.int .i64 u, .int .i64 v] 55)) := (Below.refl _ _).alloc (Nat.le_refl _) _
      have hS' := hS.trans (hbl.mono hS.size)
      have H8' := Lib.hid ((hbl.block B8 (Array.getElem?_eq_some_iff.1 H8.out).1).trans H8.out)
      clear hno hS hbl H8
      go_wp2_with fail
      refine (New_no u v _ HNO.out).mono ?_; rintro e w' ⟨rfl, rfl⟩
      go_wp2_with fail
      go_roundw
      case rel => exact ⟨j + 1, by omega, by go_num, H8', hS'⟩
      case measure => simp [intOf]; omega
    · obtain rfl : j = 4 := by omega
      clear hlt H8 hj
      go_wp2_with fail
      refine (New_yes n _ _ (by omega) (by omega)).mono ?_; rintro e wc ⟨rfl, hT, hBa⟩
      have hS1 := hS.trans (hBa.mono hS.size)
      have hsz2 := hS.size
      have hlt2 := hT.lt
      obtain ⟨p, hp⟩ : ∃ p, p = wr.heap.size + 1 := ⟨_, rfl⟩
      rw [← hp] at hT hlt2 ⊢
      have hsz' : w.heap.size ≤ p := by omega
      generalize wr.heap.size = q at *
      have HP := Lib.hid (show w.heap.size ≤ q ∧ w.heap.size ≤ p ∧ p < wc.heap.size ∧ q < wc.heap.size from ⟨hsz2, hsz', hlt2⟩)
      have HG := Lib.hid (show Good n (newT n k) ∧ (newT n k).most = k from ⟨new_good n k, rfl⟩)
      clear hBa hS hsz hsz2 hp hsz' hlt2
      go_wp2_with fail
      go_loopw [93, 18] (fun i _ wr => ∃ (j : Nat) (T : Tab), j ≤ m ∧ i = .int .i64 j ∧ TableAt wr p q n T ∧ Hid (Good n T ∧ T.most = k) ∧ Below w.heap.size w wr) (fun i _ _ => m - (intOf i).toNat)
      case atStart => exact ⟨0, _, Nat.zero_le _, rfl, hT, HG, hS1⟩
      case round =>
        clear hT HG hS1
        obtain ⟨j, T, hj, rfl, hT, HG, hS⟩ := hrel
        by_cases hlt : j < m
        · obtain ⟨wo, rfl⟩ : ∃ wo : World, wo = wr := ⟨_, rfl⟩
          have hcj := HCW.out j wo hS (by omega)
          have hxj := HXB.out j (by omega)
          generalize z.getD j 0 = y at *
          have hg' := Lib.hid (show _ ∧ _ from ⟨step_good hT.2.1 HG.out.1 y, (step_most n T y).trans HG.out.2⟩)
          go_wp2_with fail
          refine (Step_any p q n T y hxj _ hT).mono ?_; rintro e w1 ⟨rfl, hT1, hM1⟩
          have hS1 := hS.trans (hM1.below hS.size (fun k hk e => by have := HP.out; omega))
          clear hcj hT hS hM1
          generalize (stepT n T y).2 = res at *
          obtain ⟨⟨ra, rb⟩, tb, er⟩ := res
          dsimp only
          go_wp2_with fail
          go_roundw
          case rel => exact ⟨j + 1, _, by omega, by go_num, hT1, hg', hS1⟩
          case measure => simp [intOf]; omega
        · obtain rfl : j = m := by omega
          clear hlt hj
          go_wp2_with fail
          refine (Refs_any p q n T _ hT).mono ?_; rintro e w1 ⟨v1, rfl, hr1, hb1⟩
          have hT1 := hT.below hb1
          have hS1 := hS.trans (hb1.mono hS.size)
          have hrr1 := ReadsRefs.of_owns hr1
          obtain ⟨ar, cr, rfl⟩ := ownsRow_val hr1
          have hz0 := hT.lt
          have hb1s := hb1.size
          have HZ0 := Lib.hid hz0
          clear hT hS hr1 hb1 hz0
          go_wp2_with fail
          refine (Free_any p q n T _ hT1).mono ?_; rintro e w2 ⟨v2, rfl, hr2, hb2⟩
          have hT2 := hT1.below hb2
          have hS2 := hS1.trans (hb2.mono hS1.size)
          have hrr2 := hrr1.below hb2
          have hrd2 := Reads.of_owns (zs := T.free.map fun x : Nat => (x : Int)) (by rw [List.map_map]; exact hr2)
          have hfb : ∀ g, v2.ownBlock = some g → ¬ (g = p ∨ g = q) := fun g e => by have := (hr2.lt g e).1; have := hb1s; have := HZ0.out; omega
          obtain ⟨af, cf, rfl⟩ := ownsRow_val hr2
          have HFB := Lib.hid hfb
          have hfl := free_le hT2.2.1
          have hrl := refs_le n T
          clear hT1 hS1 hr2 hb2 hrr1 hfb hb1s
          go_wp2_with fail
          have hz := hS2.size
          have hbl : Below w2.heap.size w2 (w2.alloc (.cells #[.int .i64 xa, .int .i64 1, .int .i64 xn, .int .i64 1] 26)) := (Below.refl _ _).alloc (Nat.le_refl _) _
          have hrow : (w2.alloc (.cells #[.int .i64 xa, .int .i64 1, .int .i64 xn, .int .i64 1] 26)).ownsRow w2.heap.size 26 2 (.slice (some ⟨w2.heap.size, 0, none⟩) 2 2) 2 (refCells [(xa, 1), (xn, 1)]) := owns_lit (l := [(xa, 1), (xn, 1)]) (World.alloc_heap_new w2 _) (by simp [maxLen])
          have HD := Lib.hid (show (∀ r ∈ [(xa, (1 : Int)), (xn, 1)], liveT n T r = false) ∧ [(xa, (1 : Int)), (xn, 1)].length = 2 + 3 * 0 from ⟨by
            intro r hr
            simp at hr
            rcases hr with rfl | rfl
            · exact dead_out (.inl (by omega))
            · exact dead_out (.inr (by omega)), rfl⟩)
          obtain ⟨i0, hi, hz0, hz1, hz2⟩ := info_parts infoRef
          have hmost := HG.out.2
          have HMOST := Lib.hid hmost
          clear hmost
          generalize hL : (refsT n T).length = L at *
          generalize hF : T.free.length = F at *
          have HL := Lib.hid hL
          have HF := Lib.hid hF
          clear hL hF
          have HRR := Lib.hid hrr2
          have HRD := Lib.hid hrd2
          have HT2 := Lib.hid hT2
          have HS2 := Lib.hid hS2
          clear hrr2 hrd2 hT2 hS2
          go_loopw [115, 21, 23] (fun i bv _ wr => ∃ (j : Nat) (bd : List R), j ≤ L ∧ i = .int .i64 j ∧ wr.ownsRow w2.heap.size 26 2 bv bd.length (refCells bd) ∧ Hid ((∀ r ∈ bd, liveT n T r = false) ∧ bd.length = 2 + 3 * j) ∧ Below w2.heap.size w2 wr) (fun i _ _ _ => L - (intOf i).toNat)
          case atStart => exact ⟨0, [(xa, 1), (xn, 1)], Nat.zero_le _, rfl, hrow, HD, hbl⟩
          case round =>
            clear hrow HD hbl
            obtain ⟨j, bd, hj, rfl, hrow, HD, hB⟩ := hrel
            by_cases hlt : j < L
            · have hltI : (j : Int) < L := by omega
              obtain ⟨wo, rfl⟩ : ∃ wo : World, wo = wr := ⟨_, rfl⟩
              rcases HRR.out.below hB with ⟨a', c', e, hnil⟩ | ⟨b', c', e, -, hbl, hc⟩
              · injection e with _ e _; omega
              · injection e with e1 e2 e3
                subst e1
                have hjr : j < (refsT n T).length := by rw [HL.out]; exact hlt
                obtain ⟨c0, c1⟩ := hc j hjr
                have hmem : (refsT n T)[j]?.getD (0, 0) ∈ refsT n T := by rw [List.getElem?_eq_getElem hjr]; exact List.getElem_mem hjr
                generalize (refsT n T)[j]?.getD (0, 0) = r at *
                obtain ⟨r1, r2⟩ := r
                dsimp only at c0 c1
                obtain ⟨s0, s1, s2, s3⟩ := ref_bds HT2.out.2.1 hmem
                rw [HMOST.out] at s3
                have HDR := Lib.hid (dead_ref HG.out.1 hmem hxc1)
                have hbd := HD.out.2
                clear e2 e3 hc hmem hjr hbl
                have hs3 : (wo.alloc (.cells #[.int .i64 r1, .int .i64 r2] 26)).heap.size = wo.heap.size + 1 := by simp
                have hcell : ∀ (k : Nat) (u : Value), [Value.int .i64 r1, .int .i64 (r2 + 1), .int .i64 r1, .int .i64 (r2 - 1), .int .i64 r1, .int .i64 xc][k]? = some u → ((wo.alloc (.cells #[.int .i64 r1, .int .i64 r2] 26)).alloc (.cells #[.int .i64 r1, .int .i64 (r2 + 1), .int .i64 r1, .int .i64 (r2 - 1), .int .i64 r1, .int .i64 xc] 26)).cell? ((⟨wo.heap.size + 1, 0, none⟩ : Addr).add k) = some u := by
                  intro k u hk
                  have := cell_list (wo.alloc (.cells #[.int .i64 r1, .int .i64 r2] 26)) _ 26 k u hk
                  rw [hs3] at this
                  exact this
                have HC := Lib.hid hcell
                have hz3 := hB.size
                clear hcell
                go_wp2_with (at_builtin; refine wpList_append_own _ rfl _ _ 44 rfl w2.heap.size 26 i0 (.agg #[.int .i64 0, .int .i64 0]) 2 16 Try.underlying44 hi hz0 hz1 hz2 rfl (by decide) _ _ _ rfl ((hrow.alloc _).alloc _) ⟨wo.heap.size + 1, 0, none⟩ 3 3 [.int .i64 r1, .int .i64 (r2 + 1), .int .i64 r1, .int .i64 (r2 - 1), .int .i64 r1, .int .i64 xc] rfl rfl HC.out (by simp [Value.oneCell']) (by unfold maxLen; omega) (by omega) (by simp; omega) ?_; intro v' w4 hown' hgrow _)
                have m1 : Mod (fun k => w2.heap.size ≤ k) wo w4 := (((Mod.refl _ wo).alloc _).alloc _).trans ((Mod.of_grownBy hgrow).mono fun k _ hk => (hrow.lt k hk.symm).1)
                have hB4 := hB.trans (m1.below (Nat.le_trans hB.size (Nat.le_refl _)) (fun k hk e => by omega))
                refine ⟨⟨j + 1, bd ++ [(r1, r2 + 1), (r1, r2 - 1), (r1, xc)], by omega, by simp, ?_, ?_, hB4⟩, ?_⟩
                · rw [show refCells (bd ++ [(r1, r2 + 1), (r1, r2 - 1), (r1, xc)]) = refCells bd ++ [.int .i64 r1, .int .i64 (r2 + 1), .int .i64 r1, .int .i64 (r2 - 1), .int .i64 r1, .int .i64 xc] from by simp [refCells], List.length_append]; exact hown'
                · refine ⟨fun r hr => ?_, by simp; omega⟩
                  rcases List.mem_append.1 hr with hr | hr
                  · exact HD.out.1 r hr
                  · obtain ⟨d1, d2, d3⟩ := HDR.out
                    simp at hr
                    rcases hr with rfl | rfl | rfl <;> assumption
                · simp [intOf]; omega
            · obtain rfl : L = j := by omega
              clear hlt hj
              go_wp2_with fail
              go_loopw [142, 21, 25, 26, 27] (fun i bv _ _ _ wr => ∃ (j4 : Nat) (bd : List R), j4 ≤ F ∧ i = .int .i64 j4 ∧ wr.ownsRow w2.heap.size 26 2 bv bd.length (refCells bd) ∧ Hid ((∀ r ∈ bd, liveT n T r = false) ∧ bd.length = 2 + 3 * L + 2 * j4) ∧ Below w2.heap.size w2 wr) (fun i _ _ _ _ _ => F - (intOf i).toNat)
              case atStart => exact ⟨0, bd, Nat.zero_le _, rfl, hrow, HD, hB⟩
              case round =>
                clear hrow HD hB bd
                obtain ⟨j4, bd, hj4, rfl, hrow, HD, hB⟩ := hrel
                by_cases hlt : j4 < F
                · have hltI : (j4 : Int) < F := by omega
                  obtain ⟨wo, rfl⟩ : ∃ wo : World, wo = wr := ⟨_, rfl⟩
                  have hrdj := HRD.out.mod (S := fun _ => False) (Mod.of_same hB) (by simp)
                  have hjf : j4 < T.free.length := by rw [HF.out]; exact hlt
                  rcases hrdj with ⟨a', c', e, hnil⟩ | ⟨b', off', c', e, -, hc⟩
                  · injection e with _ e _; omega
                  · injection e with e1 e2 e3
                    subst e1
                    have c0 := hc j4 (by simpa using hjf)
                    have hmem : T.free[j4] ∈ T.free := List.getElem_mem hjf
                    rw [show (T.free.map fun x : Nat => (x : Int))[j4]?.getD 0 = ((T.free[j4] : Nat) : Int) from by simp [List.getElem?_eq_getElem hjf]] at c0
                    generalize T.free[j4] = f at *
                    obtain ⟨lk, l0, l1⟩ := look_free HT2.out.2.1 hmem
                    rw [HMOST.out] at l1
                    have HDF := Lib.hid (fun l => dead_free HT2.out.2.1 hmem l)
                    generalize T.lives.getD f 0 = lf at *
                    have LK := Lib.hid lk
                    have hbd := HD.out.2
                    have hTo := HT2.out.below hB
                    clear e2 e3 hc hmem hjf lk
                    go_wp2_with fail
                    refine (Look_any p q n T f _ hTo).mono ?_; rintro e w' ⟨rfl, mm, rfl⟩
                    rw [LK.out]
                    dsimp only
                    have hrow' : (wo.drewN mm).ownsRow w2.heap.size 26 2 _ bd.length (refCells bd) := hrow
                    have m0 : Mod (fun k => w2.heap.size ≤ k) wo (wo.drewN mm) := ⟨rfl, rfl, rfl, Nat.le_refl _, fun _ _ _ => rfl⟩
                    have hz3 : w2.heap.size ≤ (wo.drewN mm).heap.size := hB.size
                    clear hTo c0 hrow
                    generalize wo.drewN mm = wd at *
                    have HC := Lib.hid (cell_list wd [.int .i64 f, .int .i64 lf, .int .i64 f, .int .i64 (lf + 1)] 26)
                    go_wp2_with (at_builtin; refine wpList_append_own _ rfl _ _ 44 rfl w2.heap.size 26 i0 (.agg #[.int .i64 0, .int .i64 0]) 2 16 Try.underlying44 hi hz0 hz1 hz2 rfl (by decide) _ _ _ rfl (hrow'.alloc _) ⟨wd.heap.size, 0, none⟩ 2 2 [.int .i64 f, .int .i64 lf, .int .i64 f, .int .i64 (lf + 1)] rfl rfl HC.out (by simp [Value.oneCell']) (by unfold maxLen; omega) (by omega) (by simp; omega) ?_; intro v' w4 hown' hgrow _)
                    have m1 : Mod (fun k => w2.heap.size ≤ k) wo w4 := (m0.alloc _).trans ((Mod.of_grownBy hgrow).mono fun k _ hk => (hrow'.lt k hk.symm).1)
                    have hB4 := hB.trans (m1.below (Nat.le_trans hB.size (Nat.le_refl _)) (fun k hk e => by omega))
                    refine ⟨⟨j4 + 1, bd ++ [((f : Int), lf), ((f : Int), lf + 1)], by omega, by simp, ?_, ?_, hB4⟩, ?_⟩
                    · rw [show refCells (bd ++ [((f : Int), lf), ((f : Int), lf + 1)]) = refCells bd ++ [.int .i64 f, .int .i64 lf, .int .i64 f, .int .i64 (lf + 1)] from by simp [refCells], List.length_append]; exact hown'
                    · refine ⟨fun r hr => ?_, by simp; omega⟩
                      rcases List.mem_append.1 hr with hr | hr
                      · exact HD.out.1 r hr
                      · simp at hr
                        rcases hr with rfl | rfl <;> exact HDF.out _
                    · simp [intOf]; omega
                · obtain rfl : F = j4 := by omega
                  clear hlt hj4
                  have hbrow := ReadsRefs.of_owns hrow
                  obtain ⟨ab, cb, e⟩ := ownsRow_val hrow
                  subst e
                  have hblen := HD.out.2
                  have hT5 := HT2.out.below hB
                  clear hrow
                  obtain ⟨N, hN⟩ : ∃ N, N = bd.length := ⟨_, rfl⟩
                  rw [← hN] at hbrow hblen ⊢
                  have HN := Lib.hid hN
                  have hNb : N ≤ 202 := by omega
                  clear hblen
                  have HBR := Lib.hid hbrow
                  have HB := Lib.hid hB
                  have HZ2 := Lib.hid (show p < w2.heap.size ∧ q < w2.heap.size from HT2.out.lt)
                  clear hN hbrow hB
                  obtain ⟨ws, hws⟩ : ∃ ws, ws = wr := ⟨_, rfl⟩
                  subst hws
                  go_wp2_with fail
                  go_loopw [165, 29] (fun i _ wr => ∃ (j5 : Nat), j5 ≤ N ∧ i = .int .i64 j5 ∧ TableAt wr p q n T ∧ Mod (fun k => k = p ∨ k = q) ws wr) (fun i _ _ => N - (intOf i).toNat)
                  case atStart => exact ⟨0, Nat.zero_le _, rfl, hT5, Mod.refl _ _⟩
                  case round =>
                    clear hT5
                    obtain ⟨j5, hj5, rfl, hT, hM⟩ := hrel
                    by_cases hlt : j5 < N
                    · have hltI : (j5 : Int) < N := by omega
                      obtain ⟨wo, rfl⟩ : ∃ wo : World, wo = wr := ⟨_, rfl⟩
                      rcases HBR.out.mod hM (fun g hg e => by have := HZ2.out; omega) with ⟨a', c', e, hnil⟩ | ⟨b', c', e, -, hbl, hc⟩
                      · injection e with _ e _; omega
                      · injection e with e1 e2 e3
                        subst e1
                        have hjr : j5 < bd.length := by rw [← HN.out]; exact hlt
                        obtain ⟨c0, c1⟩ := hc j5 hjr
                        have hmem : bd[j5]?.getD (0, 0) ∈ bd := by rw [List.getElem?_eq_getElem hjr]; exact List.getElem_mem hjr
                        have hdead := HD.out.1 _ hmem
                        generalize bd[j5]?.getD (0, 0) = r at *
                        obtain ⟨r1, r2⟩ := r
                        dsimp only at c0 c1
                        have HDE := Lib.hid hdead
                        have hbw : Below wo.heap.size wo (wo.alloc (.cells #[.int .i64 r1, .int .i64 r2] 26)) := (Below.refl _ _).alloc (Nat.le_refl _) _
                        have hT1 := hT.below hbw
                        have hM1 := hM.alloc (.cells #[.int .i64 r1, .int .i64 r2] 26)
                        have hR1 : RefAt (wo.alloc (.cells #[.int .i64 r1, .int .i64 r2] 26)) wo.heap.size (r1, r2) := World.alloc_heap_new wo _
                        clear e2 e3 hc hmem hjr hbl hdead hT hM hbw
                        go_wp2_with fail
                        generalize wo.alloc (.cells #[.int .i64 r1, .int .i64 r2] 26) = wx at *
                        refine (Live_any p q n T r1 r2 _ hT1).mono ?_; rintro e wy ⟨rfl, hby⟩
                        rw [HDE.out]
                        have hT2 := hT1.below hby
                        have hM2 := hM1.trans (Mod.of_same hby)
                        have hR2 : RefAt wy wo.heap.size (r1, r2) := (hby.block _ (Array.getElem?_eq_some_iff.1 hR1).1).trans hR1
                        have d0 := hR2.c0
                        have d1 := hR2.c1
                        clear hT1 hM1 hR1 hR2 hby
                        go_wp2_with fail
                        refine (Give_any p q n T r1 r2 _ hT2).mono ?_; rintro e wv ⟨rfl, hT3, hM3⟩
                        rw [giveT_no HDE.out] at hT3 ⊢
                        dsimp only at hT3 ⊢
                        have hM4 := hM2.trans hM3
                        clear hT2 hM2 hM3 d0 d1
                        go_wp2_with fail
                        go_roundw
                        case rel => exact ⟨j5 + 1, by omega, by go_num, hT3, hM4⟩
                        case measure => simp [intOf]; omega
                    · obtain rfl : N = j5 := by omega
                      clear hlt hj5
                      go_wp2_with fail
                      have hbl6 : Below wr.heap.size wr (wr.alloc (.cells #[.int .i64 xa, .int .i64 xn] 3)) := (Below.refl _ _).alloc (Nat.le_refl _) _
                      have hT6 := hT.below hbl6
                      have hM6 := hM.trans (Mod.of_same hbl6)
                      have H6 := Lib.hid (show (wr.alloc (.cells #[.int .i64 xa, .int .i64 xn] 3)).heap[wr.heap.size]? = some (.cells #[.int .i64 xa, .int .i64 xn] 3 (0, 0)) from World.alloc_heap_new wr _)
                      have hlt6 := hT.lt
                      generalize wr.alloc (.cells #[.int .i64 xa, .int .i64 xn] 3) = wl at *
                      generalize wr.heap.size = B6 at *
                      clear hT hM hbl6 hlt6
                      go_loopw [186, 31, 32, 33] (fun i _ _ _ wr => ∃ (j6 : Nat), j6 ≤ 2 ∧ i = .int .i64 j6 ∧ TableAt wr p q n T ∧ Mod (fun k => k = p ∨ k = q) ws wr ∧ Hid (wr.heap[B6]? = some (.cells #[.int .i64 xa, .int .i64 xn] 3 (0, 0)))) (fun i _ _ _ _ => 2 - (intOf i).toNat)
                      case atStart => exact ⟨0, Nat.zero_le _, rfl, hT6, hM6, H6⟩
                      case round =>
                        clear hT6 hM6 H6
                        obtain ⟨j6, hj6, rfl, hT, hM, H6⟩ := hrel
                        obtain ⟨wo, rfl⟩ : ∃ wo : World, wo = wr := ⟨_, rfl⟩
                        by_cases hlt : j6 < 2
                        · obtain ⟨u, c0, hu⟩ : ∃ u, wo.cell? ⟨B6, j6, none⟩ = some (.int .i64 u) ∧ (u < 0 ∨ n ≤ u) := by
                            have h8 := H6.out
                            rcases (show j6 = 0 ∨ j6 = 1 by omega) with rfl | rfl
                            · exact ⟨xa, by simp [World.cell?, h8], by omega⟩
                            · exact ⟨xn, by simp [World.cell?, h8], by omega⟩
                          have LK := Lib.hid (look_out (T := T) hu)
                          clear hu
                          go_wp2_with fail
                          refine (Look_any p q n T u _ hT).mono ?_; rintro e w' ⟨rfl, mm, rfl⟩
                          rw [LK.out]
                          dsimp only
                          have hT' : TableAt (wo.drewN mm) p q n T := hT
                          have hM' : Mod (fun k => k = p ∨ k = q) ws (wo.drewN mm) := ⟨hM.os, hM.tape, hM.output, hM.size, hM.block⟩
                          have H6' : Hid ((wo.drewN mm).heap[B6]? = some (.cells #[.int .i64 xa, .int .i64 xn] 3 (0, 0))) := H6
                          clear c0 hT hM H6
                          generalize wo.drewN mm = wd at *
                          go_wp2_with fail
                          go_roundw
                          case rel => first | exact ⟨j6 + 1, by omega, by go_num, hT', hM', H6'⟩ | ((repeat apply Exists.intro); exact ⟨⟨j6 + 1, by omega, by go_num, hT', hM', H6'⟩, rfl⟩)
                          case measure => simp [intOf]; omega
                        · obtain rfl : j6 = 2 := by omega
                          have hle : w.heap.size ≤ w2.heap.size := HS2.out.size
                          have hS := (HS2.out.trans (HB.out.mono hle)).trans (hM.below (Nat.le_trans hle HB.out.size) (fun k hk e => by have := HP.out; omega))
                          have hq := (HRR.out.below HB.out).mod hM (fun g hg e => by have := HZ0.out; omega)
                          have hqd := (HRD.out.mod (S := fun _ => False) (Mod.of_same HB.out) (by simp)).mod hM HFB.out
                          have hq0 := hq.base
                          have HQ := Lib.hid hq0
                          have HQD := Lib.hid hqd
                          clear hM hq hqd hq0 hlt hj6
                          go_wp2_with fail
                          refine (Refs_any p q n T _ hT).mono ?_; rintro e y1 ⟨v1, rfl, hr1, hb1⟩
                          have hT1 := hT.below hb1
                          have hS1 := hS.trans (hb1.mono hS.size)
                          have hq1 := HQ.out.below hb1
                          have hqd1 := HQD.out.mod (S := fun _ => False) (Mod.of_same hb1) (by simp)
                          have hrr1 := (ReadsRefs.of_owns hr1).base
                          obtain ⟨u1, c1, e⟩ := ownsRow_val hr1
                          subst e
                          clear hT hS hr1 hb1 HQ HQD
                          go_wp2_with fail
                          refine (EqualRefs_any 0 _ _ (refsT n T) (refsT n T) _ hrr1 hq1 (by rw [HL.out]; omega)).mono ?_; rintro e w' ⟨rfl, m3, rfl⟩
                          rw [show decide (refsT n T = refsT n T) = true from by simp]
                          have hT3 : TableAt (y1.drewN m3) p q n T := hT1
                          have hS3 : Below w.heap.size w (y1.drewN m3) := below_drewN hS1 m3
                          have hqd3 : Reads .i64 (y1.drewN m3) (.slice af F cf) (T.free.map fun x : Nat => (x : Int)) := hqd1
                          clear hT1 hS1 hqd1 hrr1 hq1
                          generalize y1.drewN m3 = y3 at *
                          go_wp2_with fail
                          refine (Free_any p q n T _ hT3).mono ?_; rintro e y4 ⟨v4, rfl, hr4, hb4⟩
                          have hS4 := hS3.trans (hb4.mono hS3.size)
                          have hqd4 := hqd3.mod (S := fun _ => False) (Mod.of_same hb4) (by simp)
                          have hrd4 := Reads.of_owns (zs := T.free.map fun x : Nat => (x : Int)) (by rw [List.map_map]; exact hr4)
                          obtain ⟨u4, c4, e⟩ := ownsRow_val hr4
                          subst e
                          clear hT3 hS3 hr4 hb4 hqd3
                          go_wp2_with fail
                          refine (Equal_any _ _ _ _ _ hrd4 hqd4).mono ?_; rintro e w' ⟨rfl, m6, rfl⟩
                          rw [show decide ((T.free.map fun x : Nat => (x : Int)) = (T.free.map fun x : Nat => (x : Int))) = true from by simp]
                          go_wp2_with fail
                          go_ret
                          exact ⟨rfl, below_drewN hS4 m6⟩


theorem lawWrong (w : World) (a0 : Int) (w0 : (Lit.int .u8 a0).wf = true) (a1 : Int) (w1 : (Lit.int .u8 a1).wf = true) (a2 : Option Addr) (len2 cap2 : Nat) (z2 : List Int) (w2 : IsRow .u8 w a2 len2 cap2 z2) (x : Int) (w3 : (Lit.int .i64 x).wf = true) :
    Calls Try.prog 9 #[.int .u8 a0, .int .u8 a1, .slice a2 len2 cap2, .int .i64 x] w fun e w' => e = .returned (.bool true) ∧ Below w.heap.size w w' := by
  obtain ⟨h00, h01⟩ := bounds_u8 w0
  obtain ⟨h10, h11⟩ := bounds_u8 w1
  obtain ⟨hx0, hx1⟩ := bounds_i64 w3
  rcases row_cases w2 with ⟨rfl, rfl, rfl⟩ | ⟨y, rfl, rfl, hm⟩ | ⟨b, off, rfl, h1, h2, h3, h4, h5⟩
  · exact wrong_nil a0 h00 h01 a1 h10 h11 x hx0 hx1 w
  · exact wrong_zero a0 h00 h01 a1 h10 h11 _ _ x hx0 hx1 w hm
  · exact wrong_some a0 h00 h01 a1 h10 h11 b off len2 cap2 z2 x hx0 hx1 w h4 h5 h2 h1 h3
end Slot
end Go.Proofs.Ytpcbmckknafdgaa
