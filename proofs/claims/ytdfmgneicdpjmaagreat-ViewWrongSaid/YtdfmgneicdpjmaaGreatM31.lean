import Derived.Test.YtdfmgneicdpjmaaGreatM23
/- check: Limits.right, Limits.fits. -/
namespace Go.Proofs.YtdfmgneicdpjmaaGreat
open Go.RowKit Go.Shelf
attribute [local go_sem] Oper.semAt_some
set_option linter.unusedVariables false
set_option linter.unusedSimpArgs false
set_option maxRecDepth 100000
namespace Eng
open Resp

/-- Limits. -/
structure Lm where
  cells : Int
  ports : Int
  ahead : Int
def lmV (l : Lm) : Value := .agg #[.int .i64 l.cells, .int .i64 l.ports, .int .i64 l.ahead]
def lmB (l : Lm) : Bool := decide (0 ≤ l.cells) && (decide (l.cells ≤ 1024) && (decide (0 ≤ l.ports) && (decide (l.ports ≤ 16) && (decide (1 ≤ l.ahead) && decide (l.ahead ≤ 1048576)))))
set_option maxHeartbeats 1000000 in
theorem lmRight_any (l : Lm) (W : World) : Calls Tryz.prog 375 #[lmV l] W fun e w' => e = .returned (.bool (lmB l)) ∧ Below W.heap.size W w' := by
  obtain ⟨x, y, z⟩ := l
  have HB := Lib.hid ((Below.refl _ W).alloc (Nat.le_refl W.heap.size) (.cells #[.int .i64 x, .int .i64 y, .int .i64 z] 415))
  unfold lmV
  by_cases h1 : 0 ≤ x
  · by_cases h2 : x ≤ 1024
    · by_cases h3 : 0 ≤ y
      · by_cases h4 : y ≤ 16
        · by_cases h5 : 1 ≤ z
          · have HX : Hid (lmB ⟨x, y, z⟩ = decide (z ≤ 1048576)) := by simp [Hid, lmB, h1, h2, h3, h4, h5]
            go_enter Tryz.func375, Tryz.ntmps375
            go_wp2_with fail
            go_ret
            exact ⟨by rw [HX.out]; rfl, HB.out⟩
          · have HX : Hid (lmB ⟨x, y, z⟩ = false) := by simp [Hid, lmB, h5]
            go_enter Tryz.func375, Tryz.ntmps375
            go_wp2_with fail
            go_ret
            exact ⟨by rw [HX.out]; rfl, HB.out⟩
        · have HX : Hid (lmB ⟨x, y, z⟩ = false) := by simp [Hid, lmB, h4]
          go_enter Tryz.func375, Tryz.ntmps375
          go_wp2_with fail
          go_ret
          exact ⟨by rw [HX.out]; rfl, HB.out⟩
      · have HX : Hid (lmB ⟨x, y, z⟩ = false) := by simp [Hid, lmB, h3]
        go_enter Tryz.func375, Tryz.ntmps375
        go_wp2_with fail
        go_ret
        exact ⟨by rw [HX.out]; rfl, HB.out⟩
    · have HX : Hid (lmB ⟨x, y, z⟩ = false) := by simp [Hid, lmB, h2]
      go_enter Tryz.func375, Tryz.ntmps375
      go_wp2_with fail
      go_ret
      exact ⟨by rw [HX.out]; rfl, HB.out⟩
  · have HX : Hid (lmB ⟨x, y, z⟩ = false) := by simp [Hid, lmB, h1]
    go_enter Tryz.func375, Tryz.ntmps375
    go_wp2_with fail
    go_ret
    exact ⟨by rw [HX.out]; rfl, HB.out⟩
/-- What fits says. -/
def fitE (l : Lm) (p : List Ins) : Int := if ¬ cpE p = 0 then 170 else if lmB l = true then 0 else 171
set_option maxHeartbeats 1000000 in
theorem fits_any (l : Lm) (a : Option Addr) (n c : Nat) (p : List Ins) (W : World) (h : PrgAt W a n p) (ho : PrgOk p) (hn : n ≤ maxLen) :
    Calls Tryz.prog 327 #[lmV l, .slice a n c] W fun e w' => e = .returned (.int .i64 (fitE l p)) ∧ Below W.heap.size W w' := by
  have HC := Lib.hid (fun w hw => Check_any a n c p w hw ho hn)
  have HL := Lib.hid (lmRight_any l)
  have HP := Lib.hid h
  have HE : Hid (fitE l p = if ¬ cpE p = 0 then 170 else if lmB l = true then 0 else 171) := rfl
  generalize fitE l p = fe at *
  clear h ho hn
  unfold lmV at HL ⊢
  go_enter Tryz.func327, Tryz.ntmps327
  go_wp2_with fail
  have hb1 : Below W.heap.size W (W.alloc (.cells #[.int .i64 l.cells, .int .i64 l.ports, .int .i64 l.ahead] 415)) := (Below.refl _ _).alloc (Nat.le_refl _) _
  have HL1 := Lib.hid (World.alloc_heap_new W (.cells #[.int .i64 l.cells, .int .i64 l.ports, .int .i64 l.ahead] 415))
  have HP1 := Lib.hid (HP.out.below hb1)
  have HB1 := Lib.hid hb1
  clear hb1
  generalize W.alloc (.cells #[.int .i64 l.cells, .int .i64 l.ports, .int .i64 l.ahead] 415) = W1 at *
  refine (HC.out W1 HP1.out).mono ?_; rintro e W2 ⟨rfl, hb2⟩
  have HL2 := Lib.hid ((Mod.of_same (S := fun _ => False) hb2).heap HL1.out (fun h => h))
  have HB2 := Lib.hid (HB1.out.trans (hb2.mono HB1.out.size))
  have l0 : W2.cell? ⟨W.heap.size, 0, none⟩ = some (.int .i64 l.cells) := by simp [World.cell?, HL2.out]
  have l1 : W2.cell? ⟨W.heap.size, 1, none⟩ = some (.int .i64 l.ports) := by simp [World.cell?, HL2.out]
  have l2 : W2.cell? ⟨W.heap.size, 2, none⟩ = some (.int .i64 l.ahead) := by simp [World.cell?, HL2.out]
  clear hb2 HC
  by_cases he : cpE p = 0
  · have HE2 : Hid (fe = if lmB l = true then 0 else 171) := by rw [Hid, HE.out, if_neg (by simp [he])]
    rw [he]
    clear HE he
    go_wp2_with fail
    refine (HL.out W2).mono ?_; rintro e W3 ⟨rfl, hb3⟩
    have HB3 := Lib.hid (HB2.out.trans (hb3.mono HB2.out.size))
    clear hb3
    cases hlb : lmB l with
    | true =>
      have HE3 : Hid (fe = 0) := by rw [Hid, HE2.out, if_pos hlb]
      clear HE2 hlb
      go_wp2_with fail
      go_ret
      exact ⟨by rw [HE3.out]; rfl, HB3.out⟩
    | false =>
      have HE3 : Hid (fe = 171) := by rw [Hid, HE2.out, if_neg (by simp [hlb])]
      clear HE2 hlb
      go_wp2_with fail
      go_ret
      exact ⟨by rw [HE3.out]; rfl, HB3.out⟩
  · have HE3 : Hid (fe = 170) := by rw [Hid, HE.out, if_pos he]
    have he' : (cpE p == 0) = false := by simpa using he
    clear HE he
    go_wp2_with fail
    go_ret
    exact ⟨by rw [HE3.out]; rfl, HB2.out⟩
end Eng
end Go.Proofs.YtdfmgneicdpjmaaGreat
