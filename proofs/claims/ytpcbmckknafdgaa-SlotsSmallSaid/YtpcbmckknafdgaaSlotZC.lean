/- One act, whatever it is; the law's comparison, call by call. -/
import Derived.Test.YtpcbmckknafdgaaSlotZB
import Derived.Deep.Cut
namespace Go.Proofs.Ytpcbmckknafdgaa
open Go.RowKit Go.Shelf
set_option linter.unusedVariables false
set_option linter.unusedSimpArgs false
set_option maxRecDepth 100000
namespace Slot

theorem Do_any (base : Nat → Prop) (p q n : Nat) (T : Tab) (vl vf vt : Value) (kd at_ ra rb : Int) (hk0 : 0 ≤ kd) (hk1 : kd ≤ 255) (hat0 : -9223372036854775808 ≤ at_) (hat1 : at_ ≤ 9223372036854775807) (w : World) (h : TableAt w p q n T) (hs : StateS base w vl vf vt n T) (hbase : ∀ g, w.heap.size ≤ g → base g) (hpq : ∀ g, base g → g ≠ p ∧ g ≠ q) :
    Calls Try.prog 31 #[.pointer (some ⟨p, 0, none⟩), .agg #[vl, .int .i64 T.most, vf, vt], .agg #[.int .u8 kd, .int .i64 at_, .int .i64 ra, .int .i64 rb]] w fun e w' =>
      ∃ vl' vf' vt' T', e = .returned (.tuple #[.agg #[vl', .int .i64 T.most, vf', vt'], .bool true]) ∧ T'.most = T.most ∧ TableAt w' p q n T' ∧ StateS base w' vl' vf' vt' n T' ∧ Mod (fun k => k = p ∨ k = q) w w' := by
  by_cases h1 : kd % 5 = 0 ∨ kd % 5 = 1
  · exact Do_take base p q n T vl vf vt kd at_ ra rb hk0 hk1 h1 w h hs hbase hpq
  · by_cases h2 : kd % 5 = 2 ∨ kd % 5 = 3
    · exact Do_give base p q n T vl vf vt kd at_ ra rb hk0 hk1 hat0 hat1 h2 w h hs hbase hpq
    · have h4 : kd % 5 = 4 := by omega
      by_cases h5 : at_ = 0
      · subst h5
        exact Do_clear base p q n T vl vf vt kd ra rb hk0 hk1 h4 w h hs hbase hpq
      · exact Do_look base p q n T vl vf vt kd at_ ra rb hk0 hk1 h4 h5 w h hs hbase hpq

/-- An act. -/
structure ActV where
  kind : Int
  at_ : Int
  ra : Int
  rb : Int
def ActV.Wf (x : ActV) : Prop := 0 ≤ x.kind ∧ x.kind ≤ 255 ∧ -9223372036854775808 ≤ x.at_ ∧ x.at_ ≤ 9223372036854775807
/-- The slice value v reads as the acts l, and its row lies below B. -/
def ActsAt (B : Nat) (w : World) (a : Option Addr) (len : Nat) (l : List ActV) : Prop :=
  l.length = len ∧ (∀ x ∈ l, x.Wf) ∧ (0 < len → ∃ b off, a = some ⟨b, off, none⟩ ∧ b < B ∧ ∀ i (hi : i < l.length), w.cell? ⟨b, off + i * 4, none⟩ = some (.int .u8 l[i].kind) ∧ w.cell? ⟨b, off + i * 4 + 1, none⟩ = some (.int .i64 l[i].at_) ∧ w.cell? ⟨b, off + i * 4 + 2, none⟩ = some (.int .i64 l[i].ra) ∧ w.cell? ⟨b, off + i * 4 + 3, none⟩ = some (.int .i64 l[i].rb))

/-- What New of the reference is to do. -/
def NewOk : Prop := ∀ (n : Nat) (k : Int) (w : World), n ≤ 1024 →
    Calls Try.prog 30 #[.int .i64 n, .int .i64 k] w fun e w' => ∃ vl vf vt, e = .returned (.agg #[vl, .int .i64 k, vf, vt]) ∧ StateS (fun g => w.heap.size ≤ g) w' vl vf vt n (newT n k) ∧ Below w.heap.size w w'

theorem Tells_no (x k : Int) (v : Value) (w : World) (h : ¬ (0 ≤ x ∧ x ≤ 1024 ∧ 1 ≤ k ∧ k ≤ 4294967296)) :
    Calls Try.prog 11 #[.int .i64 x, .int .i64 k, v] w fun e w' => e = .returned (.bool true) ∧ w = w' := by
  by_cases h0 : 0 ≤ x
  · by_cases h1 : x ≤ 1024
    · by_cases h2 : 1 ≤ k
      · have h3 : ¬ k ≤ 4294967296 := by omega
        go_enter Try.func11, Try.ntmps11
        go_wp2_with fail
        refine (New_no x k _ h).mono ?_; rintro e w' ⟨rfl, rfl⟩
        go_wp2_with fail
        go_ret
        exact ⟨rfl, rfl⟩
      · go_enter Try.func11, Try.ntmps11
        go_wp2_with fail
        refine (New_no x k _ h).mono ?_; rintro e w' ⟨rfl, rfl⟩
        go_wp2_with fail
        go_ret
        exact ⟨rfl, rfl⟩
    · go_enter Try.func11, Try.ntmps11
      go_wp2_with fail
      refine (New_no x k _ h).mono ?_; rintro e w' ⟨rfl, rfl⟩
      go_wp2_with fail
      go_ret
      exact ⟨rfl, rfl⟩
  · go_enter Try.func11, Try.ntmps11
    go_wp2_with fail
    refine (New_no x k _ h).mono ?_; rintro e w' ⟨rfl, rfl⟩
    go_wp2_with fail
    go_ret
    exact ⟨rfl, rfl⟩

set_option maxHeartbeats 16000000 in
theorem Tells_yes (hNew : NewOk) (n : Nat) (k : Int) (a : Option Addr) (len cap : Nat) (l : List ActV) (w : World) (hn : n ≤ 1024) (hk : 1 ≤ k ∧ k ≤ 4294967296) (hl : ActsAt w.heap.size w a len l) (hlc : len ≤ cap) (hcm : cap ≤ maxLen) :
    Calls Try.prog 11 #[.int .i64 n, .int .i64 k, .slice a len cap] w fun e w' => e = .returned (.bool true) ∧ Below w.heap.size w w' := by
  obtain ⟨hk1, hk2⟩ := hk
  have HL := Lib.hid hl
  have HNEW := Lib.hid hNew
  clear hl hNew
  go_enter Try.func11, Try.ntmps11
  go_wp2_with fail
  refine (New_yes n k _ hn ⟨hk1, hk2⟩).mono ?_; rintro e w1 ⟨rfl, h1, hb1⟩
  have hl1 := h1.lt
  go_wp2_with fail
  refine (HNEW.out n k _ hn).mono ?_; rintro e w2 ⟨vl, vf, vt, rfl, hs2, hb2⟩
  have h2 := h1.below hb2
  obtain ⟨p, hp⟩ : ∃ p, p = w.heap.size + 1 := ⟨_, rfl⟩
  rw [← hp] at h2 hl1 ⊢
  have hpw : w.heap.size < p := by omega
  clear hp
  have hB2 := hb1.trans (hb2.mono hb1.size)
  obtain ⟨al, cl, e⟩ := hs2.s.lives.form
  obtain ⟨af, cf, e'⟩ := hs2.s.free.form
  obtain ⟨at2, ct, e''⟩ := hs2.s.taken.form
  subst e e' e''
  have hmk : (newT n k).most = k := rfl
  have hbx : BoxS (w2.alloc (.cells #[.slice al n cl, .int .i64 k, .slice af (newT n k).free.length cf, .slice at2 n ct] 67)) w2.heap.size (.slice al n cl) k (.slice af (newT n k).free.length cf) (.slice at2 n ct) := World.alloc_heap_new w2 _
  have bl : Below w2.heap.size w2 (w2.alloc (.cells #[.slice al n cl, .int .i64 k, .slice af (newT n k).free.length cf, .slice at2 n ct] 67)) := (Below.refl _ _).alloc (Nat.le_refl _) _
  have h3 := h2.below bl
  have hs3 := (hs2.imp (base' := (fun g => w1.heap.size ≤ g ∧ g ≠ w2.heap.size)) (fun g hg hl => ⟨hg, by omega⟩)).below bl
  have hB3 := hB2.trans (bl.mono hB2.size)
  have hz12 := hb2.size
  have hz3 : w2.heap.size < (w2.alloc (.cells #[.slice al n cl, .int .i64 k, .slice af (newT n k).free.length cf, .slice at2 n ct] 67)).heap.size := by simp
  clear h1 h2 hs2 hb1 hb2 hB2 bl
  go_wp2_with fail
  generalize w2.alloc (.cells #[.slice al n cl, .int .i64 k, .slice af (newT n k).free.length cf, .slice at2 n ct] 67) = w3 at *
  have HZ := Lib.hid (show w.heap.size < p ∧ p < w1.heap.size ∧ w1.heap.size ≤ w2.heap.size ∧ w2.heap.size < w3.heap.size from ⟨hpw, hl1.1, hz12, hz3⟩)
  generalize w2.heap.size = BR at *
  clear hl1 hz12 hz3 hpw
  have hlenI : (len : Int) ≤ 9223372036854775807 := by unfold maxLen at hcm; omega
  go_loopw [51] (fun i wr => ∃ (j : Nat) (T : Tab) (ul uf ut : Value), j ≤ len ∧ i = .int .i64 j ∧ Hid (T.most = k) ∧ TableAt wr p w.heap.size n T ∧ BoxS wr BR ul k uf ut ∧ StateS (fun g => w1.heap.size ≤ g ∧ g ≠ BR) wr ul uf ut n T ∧ Below w.heap.size w wr ∧ w3.heap.size ≤ wr.heap.size) (fun i _ => len - (intOf i).toNat)
  case atStart => exact ⟨0, _, _, _, _, Nat.zero_le _, rfl, hmk, h3, hbx, hs3, hB3, Nat.le_refl _⟩
  case round =>
    clear h3 hbx hs3 hB3 hmk
    obtain ⟨j, T, ul, uf, ut, hj, rfl, HM, hT, hbx, hs, hB, hsz⟩ := hrel
    obtain ⟨wo, rfl⟩ : ∃ wo : World, wo = wr := ⟨_, rfl⟩
    obtain ⟨al, cl, e⟩ := hs.s.lives.form
    obtain ⟨af, cf, e'⟩ := hs.s.free.form
    obtain ⟨at2, ct, e''⟩ := hs.s.taken.form
    subst e e' e''
    have q0 := hbx.c0
    have q1 := hbx.c1
    have q2 := hbx.c2
    have q3 := hbx.c3
    by_cases hlt : j < len
    · have hltI : (j : Int) < len := by omega
      obtain ⟨hll, hwf, hrow⟩ := HL.out
      obtain ⟨b, off, ea, hbw, hcell⟩ := hrow (by omega)
      subst ea
      have hjl : j < l.length := by omega
      obtain ⟨c0, c1, c2, c3⟩ := hcell j hjl
      have hx := hwf l[j] (List.getElem_mem hjl)
      generalize l[j] = x at *
      obtain ⟨x0, x1, x2, x3⟩ := hx
      have d0 := (hB.cell (p := ⟨b, off + j * 4, none⟩) hbw).trans c0
      have d1 := (hB.cell (p := ⟨b, off + j * 4 + 1, none⟩) hbw).trans c1
      have d2 := (hB.cell (p := ⟨b, off + j * 4 + 2, none⟩) hbw).trans c2
      have d3 := (hB.cell (p := ⟨b, off + j * 4 + 3, none⟩) hbw).trans c3
      have bla : Below wo.heap.size wo (wo.alloc (.cells #[.int .u8 x.kind, .int .i64 x.at_, .int .i64 x.ra, .int .i64 x.rb] 28)) := (Below.refl _ _).alloc (Nat.le_refl _) _
      have hT1 := hT.below bla
      have hs1 := hs.below bla
      have hbx1 : BoxS (wo.alloc (.cells #[.int .u8 x.kind, .int .i64 x.at_, .int .i64 x.ra, .int .i64 x.rb] 28)) BR (.slice al n cl) k (.slice af T.free.length cf) (.slice at2 n ct) := (bla.block _ hbx.lt).trans hbx
      have hB1 := hB.trans (bla.mono hB.size)
      have hz1 := bla.size
      have hz := HZ.out
      clear q0 q1 q2 q3 c0 c1 c2 c3 hll hwf hrow hcell hjl hT hs hbx bla
      have q0 := hbx1.c0
      have q1 := hbx1.c1
      have q2 := hbx1.c2
      have q3 := hbx1.c3
      have C := Do_any (fun g => w1.heap.size ≤ g ∧ g ≠ BR) p w.heap.size n T _ _ _ x.kind x.at_ x.ra x.rb x0 x1 x2 x3 _ hT1 hs1 (fun g hg => ⟨by omega, by omega⟩) (fun g hg => ⟨by omega, by omega⟩)
      rw [HM.out] at C
      have HC := Lib.hid C
      have HBX1 := Lib.hid hbx1
      have HB1 := Lib.hid hB1
      clear C hT1 hs1 hbx1 hB1 hB
      go_wp2_with fail
      refine HC.out.mono ?_
      rintro e w4 ⟨vl', vf', vt', T', rfl, hmo, hT4, hs4, hM4⟩
      obtain ⟨al2, cl2, e⟩ := hs4.s.lives.form
      obtain ⟨af2, cf2, e'⟩ := hs4.s.free.form
      obtain ⟨at3, ct2, e''⟩ := hs4.s.taken.form
      subst e e' e''
      generalize hF2 : T'.free.length = F2 at *
      have HF2 := Lib.hid hF2
      clear hF2
      have bln : Below w4.heap.size w4 (w4.alloc (.cells #[.slice al2 n cl2, .int .i64 k, .slice af2 F2 cf2, .slice at3 n ct2] 67)) := (Below.refl _ _).alloc (Nat.le_refl _) _
      have hbx4 := HBX1.out.mod hM4 (by omega)
      have hbxn : BoxS (w4.alloc (.cells #[.slice al2 n cl2, .int .i64 k, .slice af2 F2 cf2, .slice at3 n ct2] 67)) BR (.slice al n cl) k (.slice af T.free.length cf) (.slice at2 n ct) := (bln.block _ hbx4.lt).trans hbx4
      have hNn : BoxS (w4.alloc (.cells #[.slice al2 n cl2, .int .i64 k, .slice af2 F2 cf2, .slice at3 n ct2] 67)) w4.heap.size (.slice al2 n cl2) k (.slice af2 F2 cf2) (.slice at3 n ct2) := World.alloc_heap_new w4 _
      have hm := mod4 (w4.alloc (.cells #[.slice al2 n cl2, .int .i64 k, .slice af2 F2 cf2, .slice at3 n ct2] 67)) BR (.slice al2 n cl2) (.int .i64 k) (.slice af2 F2 cf2) (.slice at3 n ct2)
      have hTn := hT4.below bln
      have hsn := hs4.below bln
      have hBn := (HB1.out.trans (hM4.below HB1.out.size (fun g hg e => by omega))).trans (bln.mono (Nat.le_trans HB1.out.size hM4.size))
      have HT5 := Lib.hid (hTn.mod hm (by omega) (by omega))
      have HS5 := Lib.hid (hsn.mod hm (fun g hg => hg.2))
      have HX5 := Lib.hid (hbxn.set4 (al := .slice al2 n cl2) (j := k) (af := .slice af2 F2 cf2) (at_ := .slice at3 n ct2))
      have HB5 := Lib.hid (hBn.trans (hm.below hBn.size (fun g hg e => by omega)))
      have hz4 := hM4.size
      have hz5 := bln.size
      have hz6 := hm.size
      have HZ5 := Lib.hid (show w3.heap.size ≤ (((((w4.alloc (.cells #[.slice al2 n cl2, .int .i64 k, .slice af2 F2 cf2, .slice at3 n ct2] 67)).setCell ⟨BR, 0, none⟩ (.slice al2 n cl2)).setCell ⟨BR, 1, none⟩ (.int .i64 k)).setCell ⟨BR, 2, none⟩ (.slice af2 F2 cf2)).setCell ⟨BR, 3, none⟩ (.slice at3 n ct2)).heap.size from by omega)
      have HMO := Lib.hid hmo
      clear q0 q1 q2 q3 d0 d1 d2 d3
      have q0 := hbxn.c0
      have q1 := hbxn.c1
      have q2 := hbxn.c2
      have q3 := hbxn.c3
      have f0 := hbxn.frozen 0
      have f1 := hbxn.frozen 1
      have f2 := hbxn.frozen 2
      have f3 := hbxn.frozen 3
      clear bln hbx4 hbxn hNn hm hTn hsn hBn hmo hT4 hs4 hM4 hz4 hz5 hz6
      go_upto_region 12 with (fail)
      generalize ((((w4.alloc (.cells #[.slice al2 n cl2, .int .i64 k, .slice af2 F2 cf2, .slice at3 n ct2] 67)).setCell ⟨BR, 0, none⟩ (.slice al2 n cl2)).setCell ⟨BR, 1, none⟩ (.int .i64 k)).setCell ⟨BR, 2, none⟩ (.slice af2 F2 cf2)).setCell ⟨BR, 3, none⟩ (.slice at3 n ct2) = w5 at *
      clear q0 q1 q2 q3 f0 f1 f2 f3
      have q0 := HX5.out.c0
      have q1 := HX5.out.c1
      have q2 := HX5.out.c2
      have q3 := HX5.out.c3
      have C := Same_any (fun g => w1.heap.size ≤ g ∧ g ≠ BR) p w.heap.size n T' _ _ _ _ HT5.out HS5.out (fun g hg => ⟨by have := HZ5.out; omega, by have := HZ5.out; omega⟩)
      rw [HMO.out] at C
      have HC2 := Lib.hid C
      clear C
      go_wp2_with fail
      refine HC2.out.mono ?_
      rintro e w6 ⟨rfl, hb6⟩
      have hT6 := HT5.out.below hb6
      have hs6 := HS5.out.below hb6
      have hbx6 : BoxS w6 BR (.slice al2 n cl2) k (.slice af2 F2 cf2) (.slice at3 n ct2) := (hb6.block _ HX5.out.lt).trans HX5.out
      have hB6 := HB5.out.trans (hb6.mono HB5.out.size)
      have hz6 := Nat.le_trans HZ5.out hb6.size
      clear q0 q1 q2 q3 hb6
      go_wp2_with fail
      go_roundw
      case rel => exact ⟨j + 1, T', _, _, _, by omega, by go_num, HMO.out, hT6, hbx6, hs6, hB6, hz6⟩
      case measure => simp [intOf]; omega
    · obtain rfl : len = j := by omega
      clear hlt hj
      have C := Same_any (fun g => w1.heap.size ≤ g ∧ g ≠ BR) p w.heap.size n T _ _ _ _ hT hs (fun g hg => ⟨by have := HZ.out; omega, by have := HZ.out; omega⟩)
      rw [HM.out] at C
      have HC2 := Lib.hid C
      clear C
      go_wp2_with fail
      refine HC2.out.mono ?_
      rintro e w6 ⟨rfl, hb6⟩
      have hB6 := hB.trans (hb6.mono hB.size)
      go_wp2_with fail
      go_ret
      exact ⟨rfl, hB6⟩
end Slot
end Go.Proofs.Ytpcbmckknafdgaa
