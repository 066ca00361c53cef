/- The law SlotsSmall: the walk. -/
import Derived.Test.YtpcbmckknafdgaaSlotZD
import Derived.Test.YtpcbmckknafdgaaSlotZG
import Derived.Test.YtpcbmckknafdgaaSlotZI
namespace Go.Proofs.Ytpcbmckknafdgaa
open Go.RowKit Go.Shelf
set_option linter.unusedVariables false
set_option linter.unusedSimpArgs false
set_option maxRecDepth 100000
namespace Slot

theorem infoAct : (Try.prog.info? 28).map (fun i => (i.zero, i.size, i.bytes)) = some (some (.agg #[.int .u8 0, .int .i64 0, .int .i64 0, .int .i64 0]), 4, 32) := by kernel_rfl
def actCells (l : List ActV) : List Value := l.flatMap fun x => [.int .u8 x.kind, .int .i64 x.at_, .int .i64 x.ra, .int .i64 x.rb]
theorem actCells_snoc (l : List ActV) (x : ActV) : actCells (l ++ [x]) = actCells l ++ [.int .u8 x.kind, .int .i64 x.at_, .int .i64 x.ra, .int .i64 x.rb] := by simp [actCells]
theorem actCells_at : ∀ (l : List ActV) (i : Nat) (hi : i < l.length), (actCells l)[i * 4]? = some (.int .u8 l[i].kind) ∧ (actCells l)[i * 4 + 1]? = some (.int .i64 l[i].at_) ∧ (actCells l)[i * 4 + 2]? = some (.int .i64 l[i].ra) ∧ (actCells l)[i * 4 + 3]? = some (.int .i64 l[i].rb)
  | x :: l, 0, _ => by simp [actCells]
  | x :: l, i + 1, hi => by
    obtain ⟨a, b, c, d⟩ := actCells_at l i (by simpa using hi)
    have e : ∀ j, (actCells (x :: l))[(i + 1) * 4 + j]? = (actCells l)[i * 4 + j]? := fun j => by
      rw [show (i + 1) * 4 + j = i * 4 + j + 4 by omega]; rfl
    refine ⟨(e 0).trans a, (e 1).trans b, (e 2).trans c, (e 3).trans d⟩
theorem acts_drop {w : World} {base g n c m : Nat} {l : List ActV} (h : w.ownsRow base 28 4 (.slice (some ⟨g, 0, none⟩) n c) n (actCells l)) (hl : l.length = n) (hwf : ∀ x ∈ l, x.Wf) (hm : m < n) :
    ActsAt w.heap.size w (some ⟨g, m * 4, none⟩) (n - m) (l.drop m) := by
  refine ⟨by simp [hl], fun x hx => hwf x (List.mem_of_mem_drop hx), fun _ => ⟨g, m * 4, rfl, ?_, fun i hi => ?_⟩⟩
  · exact (h.lt g rfl).2
  · have hi' : m + i < l.length := by simp at hi; omega
    obtain ⟨a, b, c, d⟩ := actCells_at l (m + i) hi'
    have cc : ∀ (j : Nat) (u : Value), (actCells l)[j]? = some u → w.cell? ⟨g, j, none⟩ = some u := fun j u hj => by
      have := h.cells (g := g) rfl j u hj
      rcases j with _ | j <;> simpa [Addr.add] using this
    rw [List.getElem_drop]
    refine ⟨?_, ?_, ?_, ?_⟩
    · exact cc _ _ (by rw [show m * 4 + i * 4 = (m + i) * 4 by omega]; exact a)
    · exact cc _ _ (by rw [show m * 4 + i * 4 + 1 = (m + i) * 4 + 1 by omega]; exact b)
    · exact cc _ _ (by rw [show m * 4 + i * 4 + 2 = (m + i) * 4 + 2 by omega]; exact c)
    · exact cc _ _ (by rw [show m * 4 + i * 4 + 3 = (m + i) * 4 + 3 by omega]; exact d)
/-- A literal of acts. -/
theorem owns_acts (w : World) (l : List ActV) (hl : l.length ≤ maxLen) : (w.alloc (.cells (actCells l).toArray 28)).ownsRow w.heap.size 28 4 (.slice (some ⟨w.heap.size, 0, none⟩) l.length l.length) l.length (actCells l) := by
  have hlen : ∀ l : List ActV, (actCells l).length = l.length * 4 := fun l => by
    induction l with
    | nil => rfl
    | cons x l ih => rw [actCells, List.flatMap_cons, List.length_append]; simp only [actCells] at ih; rw [ih]; simp; omega
  refine ⟨hlen l, .inr ⟨w.heap.size, l.length, _, rfl, Nat.le_refl _, World.alloc_heap_new w _, Nat.le_refl _, hl, by simp [hlen], ?_⟩⟩
  rw [List.take_of_length_le (by simp [hlen])]

theorem act_at {w : World} {base g n c : Nat} {l : List ActV} (h : w.ownsRow base 28 4 (.slice (some ⟨g, 0, none⟩) n c) n (actCells l)) (m : Nat) (hm : m < l.length) :
    w.cell? ⟨g, m * 4, none⟩ = some (.int .u8 l[m].kind) ∧ w.cell? ⟨g, m * 4 + 1, none⟩ = some (.int .i64 l[m].at_) ∧ w.cell? ⟨g, m * 4 + 2, none⟩ = some (.int .i64 l[m].ra) ∧ w.cell? ⟨g, m * 4 + 3, none⟩ = some (.int .i64 l[m].rb) := by
  obtain ⟨a, b, c, d⟩ := actCells_at l m hm
  have cc : ∀ (j : Nat) (u : Value), (actCells l)[j]? = some u → w.cell? ⟨g, j, none⟩ = some u := fun j u hj => by
    have := h.cells (g := g) rfl j u hj
    rcases j with _ | j <;> simpa [Addr.add] using this
  exact ⟨cc _ _ a, cc _ _ b, cc _ _ c, cc _ _ d⟩
theorem cell_four (W : World) (l : List Value) (t : TypeId) (j : Nat) (u : Value) (h : l[j]? = some u) : (W.alloc (.cells l.toArray t)).cell? ((⟨W.heap.size, 0, none⟩ : Addr).add j) = some u := by
  rcases j with _ | j
  · simp [Addr.add, h]
  · simp [Addr.add, h]
theorem lit_ints (W : World) (zs : List Int) (hz : ∀ z ∈ zs, -9223372036854775808 ≤ z ∧ z ≤ 9223372036854775807) (t : TypeId) (i : Nat) (hi : i < zs.length) :
    ∃ x : Int, (-9223372036854775808 ≤ x ∧ x ≤ 9223372036854775807) ∧ (W.alloc (.cells (zs.map (Value.int .i64)).toArray t)).cell? ⟨W.heap.size, i, none⟩ = some (.int .i64 x) :=
  ⟨zs[i], hz _ (List.getElem_mem hi), by simp [hi]⟩
def ints7 : List Int := [-9223372036854775808, -1, 0, 1, 2, 1025, 9223372036854775807]
def ints8 : List Int := [-9223372036854775808, -1, 0, 1, 2, 4294967296, 4294967297, 9223372036854775807]
theorem ints7_bd : ∀ z ∈ ints7, -9223372036854775808 ≤ z ∧ z ≤ 9223372036854775807 := by decide
theorem ints8_bd : ∀ z ∈ ints8, -9223372036854775808 ≤ z ∧ z ≤ 9223372036854775807 := by decide
def acts8 (x y : Int) : List ActV := [⟨0, 0, 0, 0⟩, ⟨3, 0, x, y⟩, ⟨0, 0, 0, 0⟩, ⟨3, 0, -1, 1⟩, ⟨2, 0, 0, 0⟩, ⟨4, -1, 0, 0⟩, ⟨4, x, 0, 0⟩, ⟨0, 0, 0, 0⟩]
theorem acts8_wf (x y : Int) (hx : -9223372036854775808 ≤ x ∧ x ≤ 9223372036854775807) : ∀ z ∈ acts8 x y, z.Wf := by
  intro z hz
  simp only [acts8, List.mem_cons, List.not_mem_nil, or_false] at hz
  rcases hz with rfl | rfl | rfl | rfl | rfl | rfl | rfl | rfl <;> simp [ActV.Wf] <;> omega
def acts4 : List ActV := [⟨0, 0, 0, 0⟩, ⟨2, 0, 0, 0⟩, ⟨2, -1, 0, 0⟩, ⟨4, 0, 0, 0⟩]
def acts3 : List ActV := [⟨0, 0, 0, 0⟩, ⟨3, 0, 0, 1⟩, ⟨0, 0, 0, 0⟩]
theorem acts4_wf : ∀ x ∈ acts4, x.Wf := by
  intro x hx
  simp only [acts4, List.mem_cons, List.not_mem_nil, or_false] at hx
  rcases hx with rfl | rfl | rfl | rfl <;> exact ⟨by decide, by decide, by decide, by decide⟩
theorem acts3_wf : ∀ x ∈ acts3, x.Wf := by
  intro x hx
  simp only [acts3, List.mem_cons, List.not_mem_nil, or_false] at hx
  rcases hx with rfl | rfl | rfl <;> exact ⟨by decide, by decide, by decide, by decide⟩

set_option maxHeartbeats 8000000 in
theorem SlotsSmall_any (hNew : NewOk) (w : World) : Calls Try.prog 4 #[] w fun e w' => e = .returned (.bool true) ∧ Below w.heap.size w w' := by
  obtain ⟨i0, hi, hz0, hz1, hz2⟩ := info_parts infoAct
  have HNEW := Lib.hid hNew
  clear hNew
  have hB1 : Below w.heap.size w (w.alloc (.cells #[.int .u8 0, .int .i64 0, .int .i64 0, .int .i64 0, .int .u8 2, .int .i64 0, .int .i64 0, .int .i64 0, .int .u8 2, .int .i64 (-1), .int .i64 0, .int .i64 0, .int .u8 4, .int .i64 0, .int .i64 0, .int .i64 0] 28)) := (Below.refl _ w).alloc (Nat.le_refl _) _
  have hO1 : (w.alloc (.cells #[.int .u8 0, .int .i64 0, .int .i64 0, .int .i64 0, .int .u8 2, .int .i64 0, .int .i64 0, .int .i64 0, .int .u8 2, .int .i64 (-1), .int .i64 0, .int .i64 0, .int .u8 4, .int .i64 0, .int .i64 0, .int .i64 0] 28)).ownsRow w.heap.size 28 4 (.slice (some ⟨w.heap.size, 0, none⟩) 4 4) 4 (actCells acts4) := owns_acts w acts4 (by unfold maxLen; simp [acts4])
  have hz : w.heap.size < (w.alloc (.cells #[.int .u8 0, .int .i64 0, .int .i64 0, .int .i64 0, .int .u8 2, .int .i64 0, .int .i64 0, .int .i64 0, .int .u8 2, .int .i64 (-1), .int .i64 0, .int .i64 0, .int .u8 4, .int .i64 0, .int .i64 0, .int .i64 0] 28)).heap.size := by simp
  go_enter Try.func4, Try.ntmps4
  go_wp2_with fail
  generalize w.alloc (.cells #[.int .u8 0, .int .i64 0, .int .i64 0, .int .i64 0, .int .u8 2, .int .i64 0, .int .i64 0, .int .i64 0, .int .u8 2, .int .i64 (-1), .int .i64 0, .int .i64 0, .int .u8 4, .int .i64 0, .int .i64 0, .int .i64 0] 28) = W at *
  have HB1 := Lib.hid hB1
  have HO1 := Lib.hid hO1
  have HZ := Lib.hid hz
  clear hB1 hO1 hz
  go_loopw [15] (fun i wr => ∃ (j : Nat), j ≤ 16384 ∧ i = .int .i64 j ∧ Below W.heap.size W wr) (fun i _ => 16384 - (intOf i).toNat)
  case atStart => exact ⟨0, by omega, rfl, Below.refl _ _⟩
  case round =>
    obtain ⟨j, hj, rfl, hB⟩ := hrel
    obtain ⟨wo, rfl⟩ : ∃ wo : World, wo = wr := ⟨_, rfl⟩
    by_cases hlt : j < 16384
    · have hltI : (j : Int) < 16384 := by omega
      have HB := Lib.hid hB
      have hO2 : (wo.alloc (.cells #[.int .u8 0, .int .i64 0, .int .i64 0, .int .i64 0, .int .u8 3, .int .i64 0, .int .i64 0, .int .i64 1, .int .u8 0, .int .i64 0, .int .i64 0, .int .i64 0] 28)).ownsRow wo.heap.size 28 4 (.slice (some ⟨wo.heap.size, 0, none⟩) 3 3) 3 (actCells acts3) := owns_acts wo acts3 (by unfold maxLen; simp [acts3])
      have hB2 : Below wo.heap.size wo (wo.alloc (.cells #[.int .u8 0, .int .i64 0, .int .i64 0, .int .i64 0, .int .u8 3, .int .i64 0, .int .i64 0, .int .i64 1, .int .u8 0, .int .i64 0, .int .i64 0, .int .i64 0] 28)) := (Below.refl _ _).alloc (Nat.le_refl _) _
      clear hB
      go_wp2_with fail
      generalize wo.alloc (.cells #[.int .u8 0, .int .i64 0, .int .i64 0, .int .i64 0, .int .u8 3, .int .i64 0, .int .i64 0, .int .i64 1, .int .u8 0, .int .i64 0, .int .i64 0, .int .i64 0] 28) = w2 at *
      go_loopw [4, 5, 3] (fun k n v wr => ∃ (t N : Nat) (l : List ActV), t ≤ 7 ∧ k = .int .i64 t ∧ n = .int .i64 N ∧ N ≤ 16384 ∧ Hid (l.length = 3 + t ∧ ∀ x ∈ l, x.Wf) ∧ wr.ownsRow wo.heap.size 28 4 v (3 + t) (actCells l) ∧ Below wo.heap.size wo wr) (fun k _ _ _ => 7 - (intOf k).toNat)
      case atStart => exact ⟨0, j, acts3, by omega, rfl, rfl, by omega, ⟨rfl, acts3_wf⟩, hO2, hB2⟩
      case round =>
        obtain ⟨t, N, l, ht, rfl, rfl, hN, HL, hO, hB⟩ := hrel
        obtain ⟨wi, rfl⟩ : ∃ wi : World, wi = wr := ⟨_, rfl⟩
        clear hO2 hB2
        by_cases hlt2 : t < 7
        · have hltI2 : (t : Int) < 7 := by omega
          obtain ⟨av, cv, e⟩ := ownsRow_val hO
          subst e
          have hNI : (N : Int) ≤ 16384 := by omega
          have hm4 : N % 4 < 4 := by omega
          obtain ⟨c0, c1, c2, c3⟩ := act_at HO1.out (N % 4) (show N % 4 < acts4.length from hm4)
          have hwf := acts4_wf acts4[N % 4] (List.getElem_mem (show N % 4 < acts4.length from hm4))
          generalize acts4[N % 4]'(show N % 4 < acts4.length from hm4) = x at *
          have hzz := HB.out.size
          have hzw := HZ.out
          have q := fun (i : Nat) (v : Value) (h : W.cell? ⟨w.heap.size, i, none⟩ = some v) => (hB.cell (p := ⟨w.heap.size, i, none⟩) (show w.heap.size < wo.heap.size by omega)).trans ((HB.out.cell (p := ⟨w.heap.size, i, none⟩) hzw).trans h)
          have d0 := q _ _ c0
          have d1 := q _ _ c1
          have d2 := q _ _ c2
          have d3 := q _ _ c3
          clear q c0 c1 c2 c3
          have hcell := cell_four wi [.int .u8 x.kind, .int .i64 x.at_, .int .i64 x.ra, .int .i64 x.rb] 28
          have hB3 : Below wo.heap.size wo (wi.alloc (.cells #[.int .u8 x.kind, .int .i64 x.at_, .int .i64 x.ra, .int .i64 x.rb] 28)) := hB.alloc hB.size _
          have hzo := hB.size
          clear hB hzz
          go_wp2_with (at_builtin; refine wpList_append_own _ rfl _ _ 22 rfl wo.heap.size 28 i0 (.agg #[.int .u8 0, .int .i64 0, .int .i64 0, .int .i64 0]) 4 32 Try.underlying22 hi hz0 hz1 hz2 rfl (by decide) _ _ _ rfl (hO.alloc _) ⟨wi.heap.size, 0, none⟩ 1 1 [.int .u8 x.kind, .int .i64 x.at_, .int .i64 x.ra, .int .i64 x.rb] rfl rfl hcell (by simp [Value.oneCell']) (by unfold maxLen; omega) (by omega) (by simp; omega) ?_; intro v' w3 hown' hgrow _)
          have hg2 : (wi.alloc (.cells #[.int .u8 x.kind, .int .i64 x.at_, .int .i64 x.ra, .int .i64 x.rb] 28)).grownBy w3 (Value.slice av (3 + t) cv).ownBlock := hgrow
          have hB4 := hB3.trans ((Mod.of_grownBy hg2).below hB3.size (fun g hg e => by have := (hO.lt g e.symm).1; omega))
          obtain ⟨hl1, hl2⟩ := HL.out
          refine ⟨⟨t + 1, N / 4, l ++ [x], by omega, by simp, by simp, by omega, ⟨by simp [hl1]; omega, fun y hy => ?_⟩, by rw [actCells_snoc]; exact hown', hB4⟩, by simp [intOf]; omega⟩
          rcases List.mem_append.1 hy with hy | hy
          · exact hl2 y hy
          · obtain rfl : y = x := by simpa using hy
            exact hwf
        · obtain rfl : t = 7 := by omega
          obtain ⟨av, cv, e⟩ := ownsRow_val hO
          subst e
          obtain ⟨hl1, hl2⟩ := HL.out
          have hj4 : j % 4 < 4 := by omega
          obtain ⟨g, c, e1, hcc⟩ : ∃ g c, Value.slice av (3 + 7) cv = .slice (some ⟨g, 0, none⟩) (3 + 7) c ∧ 3 + 7 ≤ c ∧ c ≤ maxLen := by
            rcases hO.2 with ⟨e, h0⟩ | ⟨g, c, cur, e, _, _, h4, h5, _⟩
            · cases e
            · exact ⟨g, c, e, h4, h5⟩
          injection e1 with e1 _ e2
          subst e1 e2
          have hA := acts_drop hO (by rw [hl1]) hl2 (show j % 4 < 3 + 7 by omega)
          have HT := Lib.hid (Tells_any HNEW.out 3 (1 + (j : Int) % 3) _ (10 - j % 4) (cv - j % 4) _ wi hA (by omega) (by omega))
          have HB4 := Lib.hid (HB.out.trans (hB.mono HB.out.size))
          clear hA hO HL hl1 hl2 hB hlt2 ht
          have hcv := hcc.1
          have hcI : (10 : Int) ≤ cv := by omega
          clear hcc
          go_wp2_with fail
          refine HT.out.mono ?_; rintro e w5 ⟨rfl, hb5⟩
          have HB5 := Lib.hid (HB4.out.trans (hb5.mono HB4.out.size))
          clear hb5 HT
          go_wp2_with fail
          go_roundw
          case rel => exact ⟨j + 1, by omega, by go_num, HB5.out⟩
          case measure => simp [intOf]; omega
    · have hltI : ¬ (j : Int) < 16384 := by omega
      have hB2 := HB1.out.trans (hB.mono HB1.out.size)
      have hB3 : Below w.heap.size w (wo.alloc (.cells #[.int .i64 (-9223372036854775808), .int .i64 (-1), .int .i64 0, .int .i64 1, .int .i64 2, .int .i64 1025, .int .i64 9223372036854775807] 3)) := hB2.alloc hB2.size _
      have h7 : ∀ i, i < 7 → ∃ x : Int, (-9223372036854775808 ≤ x ∧ x ≤ 9223372036854775807) ∧ (wo.alloc (.cells #[.int .i64 (-9223372036854775808), .int .i64 (-1), .int .i64 0, .int .i64 1, .int .i64 2, .int .i64 1025, .int .i64 9223372036854775807] 3)).cell? ⟨wo.heap.size, i, none⟩ = some (.int .i64 x) := fun i hi => lit_ints wo ints7 ints7_bd _ i hi
      have hz3 : wo.heap.size < (wo.alloc (.cells #[.int .i64 (-9223372036854775808), .int .i64 (-1), .int .i64 0, .int .i64 1, .int .i64 2, .int .i64 1025, .int .i64 9223372036854775807] 3)).heap.size := by simp
      have HB3 := Lib.hid hB3
      have H7 := Lib.hid h7
      clear hB hB2 hB3 h7 HB1 HO1
      go_wp2_with fail
      generalize wo.alloc (.cells #[.int .i64 (-9223372036854775808), .int .i64 (-1), .int .i64 0, .int .i64 1, .int .i64 2, .int .i64 1025, .int .i64 9223372036854775807] 3) = W3 at *
      generalize wo.heap.size = b7 at *
      have HZ3 := Lib.hid hz3
      clear hz3 hlt hltI hj
      generalize (j : Int) = jj at *
      go_loopw [50] (fun i wr => ∃ (j : Nat), j ≤ 7 ∧ i = .int .i64 j ∧ Below W3.heap.size W3 wr) (fun i _ => 7 - (intOf i).toNat)
      case atStart => exact ⟨0, by omega, rfl, Below.refl _ _⟩
      case round =>
        obtain ⟨j, hj, rfl, hB⟩ := hrel
        obtain ⟨wo, rfl⟩ : ∃ wo : World, wo = wr := ⟨_, rfl⟩
        by_cases hlt : j < 7
        · have hltI : (j : Int) < 7 := by omega
          obtain ⟨x, hx, hc⟩ := H7.out j hlt
          have d0 := (hB.cell (p := ⟨b7, j, none⟩) HZ3.out).trans hc
          have hB4 : Below W3.heap.size W3 (wo.alloc (.cells #[.int .i64 (-9223372036854775808), .int .i64 (-1), .int .i64 0, .int .i64 1, .int .i64 2, .int .i64 4294967296, .int .i64 4294967297, .int .i64 9223372036854775807] 3)) := hB.alloc hB.size _
          have h8 : ∀ i, i < 8 → ∃ y : Int, (-9223372036854775808 ≤ y ∧ y ≤ 9223372036854775807) ∧ (wo.alloc (.cells #[.int .i64 (-9223372036854775808), .int .i64 (-1), .int .i64 0, .int .i64 1, .int .i64 2, .int .i64 4294967296, .int .i64 4294967297, .int .i64 9223372036854775807] 3)).cell? ⟨wo.heap.size, i, none⟩ = some (.int .i64 y) := fun i hi => lit_ints wo ints8 ints8_bd _ i hi
          have hz4 : wo.heap.size < (wo.alloc (.cells #[.int .i64 (-9223372036854775808), .int .i64 (-1), .int .i64 0, .int .i64 1, .int .i64 2, .int .i64 4294967296, .int .i64 4294967297, .int .i64 9223372036854775807] 3)).heap.size := by simp
          have HB4 := Lib.hid hB4
          have H8 := Lib.hid h8
          have HX := Lib.hid hx
          clear hB hB4 h8 hc hx
          go_wp2_with fail
          generalize wo.alloc (.cells #[.int .i64 (-9223372036854775808), .int .i64 (-1), .int .i64 0, .int .i64 1, .int .i64 2, .int .i64 4294967296, .int .i64 4294967297, .int .i64 9223372036854775807] 3) = W4 at *
          generalize wo.heap.size = b8 at *
          have HZ4 := Lib.hid hz4
          clear hz4 d0
          go_loopw [56] (fun i wr => ∃ (j : Nat), j ≤ 8 ∧ i = .int .i64 j ∧ Below W4.heap.size W4 wr) (fun i _ => 8 - (intOf i).toNat)
          case atStart => exact ⟨0, by omega, rfl, Below.refl _ _⟩
          case round =>
            obtain ⟨t, ht, rfl, hB⟩ := hrel
            obtain ⟨wi, rfl⟩ : ∃ wi : World, wi = wr := ⟨_, rfl⟩
            by_cases hlt2 : t < 8
            · have hltI2 : (t : Int) < 8 := by omega
              obtain ⟨y, hy, hc⟩ := H8.out t hlt2
              have d0 := (hB.cell (p := ⟨b8, t, none⟩) HZ4.out).trans hc
              have hO : (wi.alloc (.cells #[.int .u8 0, .int .i64 0, .int .i64 0, .int .i64 0, .int .u8 3, .int .i64 0, .int .i64 x, .int .i64 y, .int .u8 0, .int .i64 0, .int .i64 0, .int .i64 0, .int .u8 3, .int .i64 0, .int .i64 (-1), .int .i64 1, .int .u8 2, .int .i64 0, .int .i64 0, .int .i64 0, .int .u8 4, .int .i64 (-1), .int .i64 0, .int .i64 0, .int .u8 4, .int .i64 x, .int .i64 0, .int .i64 0, .int .u8 0, .int .i64 0, .int .i64 0, .int .i64 0] 28)).ownsRow wi.heap.size 28 4 (.slice (some ⟨wi.heap.size, 0, none⟩) 8 8) 8 (actCells (acts8 x y)) := owns_acts wi (acts8 x y) (by unfold maxLen; simp [acts8])
              have hA : ActsAt (wi.alloc (.cells #[.int .u8 0, .int .i64 0, .int .i64 0, .int .i64 0, .int .u8 3, .int .i64 0, .int .i64 x, .int .i64 y, .int .u8 0, .int .i64 0, .int .i64 0, .int .i64 0, .int .u8 3, .int .i64 0, .int .i64 (-1), .int .i64 1, .int .u8 2, .int .i64 0, .int .i64 0, .int .i64 0, .int .u8 4, .int .i64 (-1), .int .i64 0, .int .i64 0, .int .u8 4, .int .i64 x, .int .i64 0, .int .i64 0, .int .u8 0, .int .i64 0, .int .i64 0, .int .i64 0] 28)).heap.size (wi.alloc (.cells #[.int .u8 0, .int .i64 0, .int .i64 0, .int .i64 0, .int .u8 3, .int .i64 0, .int .i64 x, .int .i64 y, .int .u8 0, .int .i64 0, .int .i64 0, .int .i64 0, .int .u8 3, .int .i64 0, .int .i64 (-1), .int .i64 1, .int .u8 2, .int .i64 0, .int .i64 0, .int .i64 0, .int .u8 4, .int .i64 (-1), .int .i64 0, .int .i64 0, .int .u8 4, .int .i64 x, .int .i64 0, .int .i64 0, .int .u8 0, .int .i64 0, .int .i64 0, .int .i64 0] 28)) (some ⟨wi.heap.size, 0, none⟩) 8 (acts8 x y) := acts_drop (m := 0) hO rfl (acts8_wf x y HX.out) (by decide)
              have HT := Lib.hid (Tells_any HNEW.out x y _ 8 8 _ _ hA (by omega) (by unfold maxLen; omega))
              have HB5 := Lib.hid (hB.alloc hB.size (.cells #[.int .u8 0, .int .i64 0, .int .i64 0, .int .i64 0, .int .u8 3, .int .i64 0, .int .i64 x, .int .i64 y, .int .u8 0, .int .i64 0, .int .i64 0, .int .i64 0, .int .u8 3, .int .i64 0, .int .i64 (-1), .int .i64 1, .int .u8 2, .int .i64 0, .int .i64 0, .int .i64 0, .int .u8 4, .int .i64 (-1), .int .i64 0, .int .i64 0, .int .u8 4, .int .i64 x, .int .i64 0, .int .i64 0, .int .u8 0, .int .i64 0, .int .i64 0, .int .i64 0] 28))
              clear hA hO hB hc hy
              go_wp2_with fail
              refine HT.out.mono ?_; rintro e w6 ⟨rfl, hb6⟩
              have HB6 := Lib.hid (HB5.out.trans (hb6.mono HB5.out.size))
              clear hb6 HT
              go_wp2_with fail
              go_roundw
              case rel => exact ⟨t + 1, by omega, by go_num, HB6.out⟩
              case measure => simp [intOf]; omega
            · obtain rfl : t = 8 := by omega
              have HB5 := Lib.hid (HB4.out.trans (hB.mono HB4.out.size))
              clear hB
              go_wp2_with fail
              go_roundw
              case rel => exact ⟨j + 1, by omega, by go_num, HB5.out⟩
              case measure => simp [intOf]; omega
        · obtain rfl : j = 7 := by omega
          have HB4 := Lib.hid (HB3.out.trans (hB.mono HB3.out.size))
          clear hB
          go_wp2_with fail
          refine (large_law _).mono ?_; rintro e w5 ⟨rfl, hb5⟩
          have HB5 := Lib.hid (HB4.out.trans (hb5.mono HB4.out.size))
          clear hb5
          go_wp2_with fail
          refine (none_law _).mono ?_; rintro e w6 ⟨rfl, hb6⟩
          have HB6 := Lib.hid (HB5.out.trans (hb6.mono HB5.out.size))
          clear hb6
          go_wp2_with fail
          refine (awake_any _).mono ?_; rintro e w7 ⟨rfl, hb7⟩
          have HB7 := Lib.hid (HB6.out.trans (hb7.mono HB6.out.size))
          clear hb7
          go_wp2_with fail
          go_ret
          exact ⟨rfl, HB7.out⟩
end Slot
end Go.Proofs.Ytpcbmckknafdgaa
