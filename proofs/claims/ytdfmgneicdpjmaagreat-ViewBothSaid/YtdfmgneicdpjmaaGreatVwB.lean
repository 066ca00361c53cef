import Derived.Test.YtdfmgneicdpjmaaGreatVwA
import Derived.Deep.AppendLies
/- Collect over view.chosen; the functions that tell whose an entry is. -/
namespace Go.Proofs.YtdfmgneicdpjmaaGreat
open Go.RowKit Go.Shelf
attribute [local go_sem] Oper.semAt_some
set_option linter.unusedVariables false
set_option linter.unusedSimpArgs false
set_option maxRecDepth 100000
namespace View
open Resp

theorem Collect_any (a : Option Addr) (n c : Nat) (iv : Value) (es : List Ent) (p : Ent → Bool) (bl bi : Nat) (hb : ∀ e ∈ es, e.bytes.size ≤ 140737488351232) (hn : n ≤ maxLen) (W : World) (hI : IsAt iv p (Below W.heap.size W))
    (hst : W.heap[bl]? = some (.cells #[.slice a n c] 27) ∧ W.heap[bi]? = some (.cells #[iv] 117)) (hscr : ScrAt W a n es) (hlen : es.length ≤ 100000) :
    Calls Tryz.prog 62 #[.func (.func 101) #[] #[.pointer (some ⟨bl, 0, none⟩), .pointer (some ⟨bi, 0, none⟩)]] W fun e w' => ∃ v, e = .returned v ∧ OwnScr w' W.heap.size v (es.filter p) ∧ Below W.heap.size W w' := by
  have HC := Lib.hid (AppendSeq_any (.slice none 0 0) [] W.heap.size a n c iv es p bl bi hb hn W hI (OwnScr.nil _ _) (Nat.le_refl _) hst (fun w' hw => hscr.below hw) (by simpa using hlen))
  clear hb hI hst hscr
  go_enter Tryz.func62, Tryz.ntmps62
  go_wp2_with fail
  refine HC.out.mono ?_; rintro e w' ⟨v, rfl, ho, hm⟩
  have HO := Lib.hid ho
  have HM := Lib.hid (hm.below (Nat.le_refl _) (fun k hk h => by omega))
  clear ho hm
  go_wp2_with fail
  go_ret
  exact ⟨v, rfl, by simpa using HO.out, HM.out⟩
theorem is_of (slot : Int) (b base : Nat) (W : World) (hb : W.cell? ⟨b, 0, none⟩ = some (.int .i64 slot)) (hlt : b < base) : IsAt (.func (.func 100) #[] #[.pointer (some ⟨b, 0, none⟩)]) (ownB slot) (Below base W) :=
  ⟨_, _, rfl, enters_of Tryz.func100 (by kernel_rfl) rfl, fun e v A hA hv => of1_any slot b e v A hv ((hA.cell (p := ⟨b, 0, none⟩) hlt).trans hb)⟩
def aloneP (slot : Int) (e : Ent) : Bool := e.kind == 2 || ownB slot e
def othersP (slot : Int) (e : Ent) : Bool := !(e.kind == 2) && !(ownB slot e)
theorem alone1_any (slot : Int) (bo bs : Nat) (e : Ent) (v : Value) (W : World) (hv : StrAt W v e.bytes) (ho : W.cell? ⟨bo, 0, none⟩ = some (.func (.func 100) #[] #[.pointer (some ⟨bs, 0, none⟩)])) (hb : W.cell? ⟨bs, 0, none⟩ = some (.int .i64 slot)) :
    Calls Tryz.prog 64 #[.agg #[.int .u8 e.kind, .int .i64 e.slot, .int .i64 e.n, v], .pointer (some ⟨bo, 0, none⟩)] W fun r w' => r = .returned (.bool (aloneP slot e)) ∧ Below W.heap.size W w' := by
  obtain ⟨a, c, rfl⟩ := hv.form
  have hbz : Below W.heap.size W (W.alloc (.cells #[.int .u8 e.kind, .int .i64 e.slot, .int .i64 e.n, .slice a e.bytes.size c] 38)) := (Below.refl _ _).alloc (Nat.le_refl _) _
  have hbl := World.block_lt_of_cell? W _ hb
  have hol := World.block_lt_of_cell? W _ ho
  have c1 := hbz.cell (p := ⟨bs, 0, none⟩) hbl
  rw [hb] at c1
  have c2 := hbz.cell (p := ⟨bo, 0, none⟩) hol
  rw [ho] at c2
  have HB := Lib.hid hbz
  have HV := Lib.hid (StrAt.below hv hbz)
  have HC1 := Lib.hid c1
  clear hv hbz hbl hb ho hol c1
  by_cases hk : e.kind = 2
  · have HE : Hid (aloneP slot e = true) := by simp [Hid, aloneP, hk]
    rw [hk] at c2 HB HV HC1 ⊢
    clear hk
    go_enter Tryz.func64, Tryz.ntmps64
    go_wp2_with fail
    go_ret
    exact ⟨by rw [HE.out]; rfl, HB.out⟩
  · have hk' : (e.kind == 2) = false := by simpa using hk
    have HE : Hid (aloneP slot e = ownB slot e) := by simp [Hid, aloneP, hk']
    clear hk
    go_enter Tryz.func64, Tryz.ntmps64
    go_wp2_with fail
    refine (of1_any slot bs e _ _ HV.out HC1.out).mono ?_; rintro r w' ⟨rfl, hb2⟩
    have HB2 := Lib.hid (below_step_ HB.out hb2)
    clear hb2
    go_wp2_with fail
    go_ret
    exact ⟨by rw [HE.out]; rfl, HB2.out⟩
theorem moves1_any (slot : Int) (bo bs : Nat) (e : Ent) (v : Value) (W : World) (hv : StrAt W v e.bytes) (ho : W.cell? ⟨bo, 0, none⟩ = some (.func (.func 100) #[] #[.pointer (some ⟨bs, 0, none⟩)])) (hb : W.cell? ⟨bs, 0, none⟩ = some (.int .i64 slot)) :
    Calls Tryz.prog 77 #[.agg #[.int .u8 e.kind, .int .i64 e.slot, .int .i64 e.n, v], .pointer (some ⟨bo, 0, none⟩)] W fun r w' => r = .returned (.bool (aloneP slot e)) ∧ Below W.heap.size W w' := by
  obtain ⟨a, c, rfl⟩ := hv.form
  have hbz : Below W.heap.size W (W.alloc (.cells #[.int .u8 e.kind, .int .i64 e.slot, .int .i64 e.n, .slice a e.bytes.size c] 38)) := (Below.refl _ _).alloc (Nat.le_refl _) _
  have hbl := World.block_lt_of_cell? W _ hb
  have hol := World.block_lt_of_cell? W _ ho
  have c1 := hbz.cell (p := ⟨bs, 0, none⟩) hbl
  rw [hb] at c1
  have c2 := hbz.cell (p := ⟨bo, 0, none⟩) hol
  rw [ho] at c2
  have HB := Lib.hid hbz
  have HV := Lib.hid (StrAt.below hv hbz)
  have HC1 := Lib.hid c1
  clear hv hbz hbl hb ho hol c1
  by_cases hk : e.kind = 2
  · have HE : Hid (aloneP slot e = true) := by simp [Hid, aloneP, hk]
    rw [hk] at c2 HB HV HC1 ⊢
    clear hk
    go_enter Tryz.func77, Tryz.ntmps77
    go_wp2_with fail
    go_ret
    exact ⟨by rw [HE.out]; rfl, HB.out⟩
  · have hk' : (e.kind == 2) = false := by simpa using hk
    have HE : Hid (aloneP slot e = ownB slot e) := by simp [Hid, aloneP, hk']
    clear hk
    go_enter Tryz.func77, Tryz.ntmps77
    go_wp2_with fail
    refine (of1_any slot bs e _ _ HV.out HC1.out).mono ?_; rintro r w' ⟨rfl, hb2⟩
    have HB2 := Lib.hid (below_step_ HB.out hb2)
    clear hb2
    go_wp2_with fail
    go_ret
    exact ⟨by rw [HE.out]; rfl, HB2.out⟩
theorem others1_any (slot : Int) (bo bs : Nat) (e : Ent) (v : Value) (W : World) (hv : StrAt W v e.bytes) (ho : W.cell? ⟨bo, 0, none⟩ = some (.func (.func 100) #[] #[.pointer (some ⟨bs, 0, none⟩)])) (hb : W.cell? ⟨bs, 0, none⟩ = some (.int .i64 slot)) :
    Calls Tryz.prog 65 #[.agg #[.int .u8 e.kind, .int .i64 e.slot, .int .i64 e.n, v], .pointer (some ⟨bo, 0, none⟩)] W fun r w' => r = .returned (.bool (othersP slot e)) ∧ Below W.heap.size W w' := by
  obtain ⟨a, c, rfl⟩ := hv.form
  have hbz : Below W.heap.size W (W.alloc (.cells #[.int .u8 e.kind, .int .i64 e.slot, .int .i64 e.n, .slice a e.bytes.size c] 38)) := (Below.refl _ _).alloc (Nat.le_refl _) _
  have hbl := World.block_lt_of_cell? W _ hb
  have hol := World.block_lt_of_cell? W _ ho
  have c1 := hbz.cell (p := ⟨bs, 0, none⟩) hbl
  rw [hb] at c1
  have c2 := hbz.cell (p := ⟨bo, 0, none⟩) hol
  rw [ho] at c2
  have HB := Lib.hid hbz
  have HV := Lib.hid (StrAt.below hv hbz)
  have HC1 := Lib.hid c1
  clear hv hbz hbl hb ho hol c1
  by_cases hk : e.kind = 2
  · have HE : Hid (othersP slot e = false) := by simp [Hid, othersP, hk]
    rw [hk] at c2 HB HV HC1 ⊢
    clear hk
    go_enter Tryz.func65, Tryz.ntmps65
    go_wp2_with fail
    go_ret
    exact ⟨by rw [HE.out]; rfl, HB.out⟩
  · have hk' : (e.kind != 2) = true := by simpa using hk
    have HE : Hid (othersP slot e = !(ownB slot e)) := by simp [Hid, othersP, hk]
    clear hk
    go_enter Tryz.func65, Tryz.ntmps65
    go_wp2_with fail
    refine (of1_any slot bs e _ _ HV.out HC1.out).mono ?_; rintro r w' ⟨rfl, hb2⟩
    have HB2 := Lib.hid (below_step_ HB.out hb2)
    clear hb2
    go_wp2_with fail
    go_ret
    exact ⟨by rw [HE.out]; rfl, HB2.out⟩
theorem is_alone (slot : Int) (bo bs base : Nat) (W : World) (ho : W.cell? ⟨bo, 0, none⟩ = some (.func (.func 100) #[] #[.pointer (some ⟨bs, 0, none⟩)])) (hb : W.cell? ⟨bs, 0, none⟩ = some (.int .i64 slot)) (h1 : bo < base) (h2 : bs < base) :
    IsAt (.func (.func 64) #[] #[.pointer (some ⟨bo, 0, none⟩)]) (aloneP slot) (Below base W) :=
  ⟨_, _, rfl, enters_of Tryz.func64 (by kernel_rfl) rfl, fun e v A hA hv => alone1_any slot bo bs e v A hv ((hA.cell (p := ⟨bo, 0, none⟩) h1).trans ho) ((hA.cell (p := ⟨bs, 0, none⟩) h2).trans hb)⟩
theorem is_moves (slot : Int) (bo bs base : Nat) (W : World) (ho : W.cell? ⟨bo, 0, none⟩ = some (.func (.func 100) #[] #[.pointer (some ⟨bs, 0, none⟩)])) (hb : W.cell? ⟨bs, 0, none⟩ = some (.int .i64 slot)) (h1 : bo < base) (h2 : bs < base) :
    IsAt (.func (.func 77) #[] #[.pointer (some ⟨bo, 0, none⟩)]) (aloneP slot) (Below base W) :=
  ⟨_, _, rfl, enters_of Tryz.func77 (by kernel_rfl) rfl, fun e v A hA hv => moves1_any slot bo bs e v A hv ((hA.cell (p := ⟨bo, 0, none⟩) h1).trans ho) ((hA.cell (p := ⟨bs, 0, none⟩) h2).trans hb)⟩
theorem is_others (slot : Int) (bo bs base : Nat) (W : World) (ho : W.cell? ⟨bo, 0, none⟩ = some (.func (.func 100) #[] #[.pointer (some ⟨bs, 0, none⟩)])) (hb : W.cell? ⟨bs, 0, none⟩ = some (.int .i64 slot)) (h1 : bo < base) (h2 : bs < base) :
    IsAt (.func (.func 65) #[] #[.pointer (some ⟨bo, 0, none⟩)]) (othersP slot) (Below base W) :=
  ⟨_, _, rfl, enters_of Tryz.func65 (by kernel_rfl) rfl, fun e v A hA hv => others1_any slot bo bs e v A hv ((hA.cell (p := ⟨bo, 0, none⟩) h1).trans ho) ((hA.cell (p := ⟨bs, 0, none⟩) h2).trans hb)⟩
theorem is_all (base : Nat) (W : World) : IsAt (.func (.func 67) #[] #[]) (fun _ => true) (Below base W) :=
  ⟨_, _, rfl, enters_of Tryz.func67 (by kernel_rfl) rfl, fun e v A hA hv => by
    obtain ⟨a, c, rfl⟩ := hv.form
    have hbz : Below A.heap.size A (A.alloc (.cells #[.int .u8 e.kind, .int .i64 e.slot, .int .i64 e.n, .slice a e.bytes.size c] 38)) := (Below.refl _ _).alloc (Nat.le_refl _) _
    have HB := Lib.hid hbz
    clear hbz hv hA
    show Calls Tryz.prog 67 #[.agg #[.int .u8 e.kind, .int .i64 e.slot, .int .i64 e.n, .slice a e.bytes.size c]] A _
    go_enter Tryz.func67, Tryz.ntmps67
    go_wp2_with fail
    go_ret
    exact ⟨rfl, HB.out⟩⟩
end View
end Go.Proofs.YtdfmgneicdpjmaaGreat

/- view.Alone and Others. -/
namespace Go.Proofs.YtdfmgneicdpjmaaGreat
open Go.RowKit Go.Shelf
attribute [local go_sem] Oper.semAt_some
set_option linter.unusedVariables false
set_option linter.unusedSimpArgs false
set_option maxRecDepth 100000
namespace View
open Resp

def wrg1 (slot : Int) (es : List Ent) : Int := if chkE es = 0 then (if slot < 0 ∨ 4294967295 < slot then 2 else 0) else chkE es
def wrg2 (slot : Int) (es fs : List Ent) : Int := if chkE es = 0 then wrg1 slot fs else chkE es
theorem wrongE_one (slot : Int) (x : Scr) : wrongE slot [x] = wrg1 slot x.es := by
  unfold wrongE wrg1 firstE firstE
  by_cases h : chkE x.es = 0 <;> simp [h]
theorem wrongE_two (slot : Int) (x y : Scr) : wrongE slot [x, y] = wrg2 slot x.es y.es := by
  unfold wrongE wrg2 wrg1 firstE firstE firstE
  by_cases h : chkE x.es = 0 <;> by_cases h2 : chkE y.es = 0 <;> simp [h, h2]
theorem chk_ok {es : List Ent} (h : chkE es = 0) : es.length ≤ 4000 ∧ ∀ e ∈ es, cleanB e = true := by
  unfold chkE at h
  split at h
  · cases h
  · rename_i hl
    refine ⟨by omega, fun e he => ?_⟩
    split at h
    · cases h
    · rename_i hb
      have h2 : badAt es = es.length := by have := badAt_le es; omega
      have h3 := List.findIdx_eq_length.1 h2 e he
      simpa using h3
theorem wrg1_ok {slot : Int} {es : List Ent} (h : wrg1 slot es = 0) : chkE es = 0 ∧ 0 ≤ slot ∧ slot ≤ 4294967295 := by
  unfold wrg1 at h
  split at h
  · rename_i h1
    refine ⟨h1, ?_⟩
    split at h
    · cases h
    · omega
  · rename_i h1; exact absurd h h1
theorem clean_size {e : Ent} (h : cleanB e = true) : e.bytes.size ≤ 16384 := by
  unfold cleanB at h
  split at h
  · simp at h; omega
  · split at h
    · simp [sameB] at h
      rw [h.2]; decide
    · split at h
      · simp [sameB] at h
        rw [h.2.2]; decide
      · cases h
theorem of_any2 (slot : Int) (w : World) : Calls Tryz.prog 61 #[.int .i64 slot] w fun e w' => e = .returned (.func (.func 100) #[] #[.pointer (some ⟨w.heap.size, 0, none⟩)]) ∧ w'.heap[w.heap.size]? = some (.cells #[.int .i64 slot] 3) ∧ Below w.heap.size w w' :=
  (of_any slot w).mono fun e w' ⟨he, hw⟩ => by
    subst hw
    exact ⟨he, World.alloc_heap_new _ _, (Below.refl _ _).alloc (Nat.le_refl _) _⟩
theorem chosen_any2 (lv iv : Value) (hl : ∃ a n c, lv = .slice a n c) (hi : ∃ f cs, iv = .func (.func f) #[] cs) (w : World) :
    Calls Tryz.prog 63 #[lv, iv] w fun e w' => e = .returned (.func (.func 101) #[] #[.pointer (some ⟨w.heap.size, 0, none⟩), .pointer (some ⟨w.heap.size + 1, 0, none⟩)]) ∧ (w'.heap[w.heap.size]? = some (.cells #[lv] 27) ∧ w'.heap[w.heap.size + 1]? = some (.cells #[iv] 117)) ∧ Below w.heap.size w w' :=
  (chosen_any lv iv hl hi w).mono fun e w' ⟨he, hw⟩ => by
    have h1 := (Below.heap_alloc (w.alloc (.cells #[lv] 27)) (.cells #[iv] 117) w.heap.size (by simp)).trans (World.alloc_heap_new w (.cells #[lv] 27))
    have h2 := World.alloc_heap_new (w.alloc (.cells #[lv] 27)) (.cells #[iv] 117)
    rw [World.size_alloc] at h2
    have h3 : Below w.heap.size w ((w.alloc (.cells #[lv] 27)).alloc (.cells #[iv] 117)) := ((Below.refl _ _).alloc (Nat.le_refl _) _).alloc (by simp) _
    rw [← hw] at h1 h2 h3
    exact ⟨he, ⟨h1, h2⟩, h3⟩
theorem wrong_one (slot : Int) (a : Option Addr) (n c : Nat) (es : List Ent) (W : World) (h : ScrAt W a n es) (hn : n ≤ maxLen) (T : TypeId) :
    Calls Tryz.prog 60 #[.int .i64 slot, .slice (some ⟨W.heap.size, 0, none⟩) 1 1] (W.alloc (.cells #[.slice a n c] T)) fun e w' => e = .returned (.int .i64 (wrg1 slot es)) ∧ Below W.heap.size W w' := by
  have hb : Below W.heap.size W (W.alloc (.cells #[.slice a n c] T)) := (Below.refl _ _).alloc (Nat.le_refl _) _
  refine (wrong_any slot W.heap.size 1 1 [⟨a, n, c, es⟩] rfl (by omega) _ ?_).mono fun e w' ⟨he, hw⟩ => ⟨by rw [he, wrongE_one], below_step_ hb hw⟩
  intro i x hx
  rcases i with _ | i
  · simp at hx
    subst hx
    exact ⟨cell_of_heap_ (World.alloc_heap_new _ _), h.below hb, hn⟩
  · simp at hx
theorem wrong_two (slot : Int) (a : Option Addr) (n c : Nat) (es : List Ent) (b : Option Addr) (m d : Nat) (fs : List Ent) (W : World) (h : ScrAt W a n es) (hn : n ≤ maxLen) (h2 : ScrAt W b m fs) (hm : m ≤ maxLen) (T : TypeId) :
    Calls Tryz.prog 60 #[.int .i64 slot, .slice (some ⟨W.heap.size, 0, none⟩) 2 2] (W.alloc (.cells #[.slice a n c, .slice b m d] T)) fun e w' => e = .returned (.int .i64 (wrg2 slot es fs)) ∧ Below W.heap.size W w' := by
  have hb : Below W.heap.size W (W.alloc (.cells #[.slice a n c, .slice b m d] T)) := (Below.refl _ _).alloc (Nat.le_refl _) _
  refine (wrong_any slot W.heap.size 2 2 [⟨a, n, c, es⟩, ⟨b, m, d, fs⟩] rfl (by omega) _ ?_).mono fun e w' ⟨he, hw⟩ => ⟨by rw [he, wrongE_two], below_step_ hb hw⟩
  intro i x hx
  obtain ⟨z0, z1, -, -⟩ := pair_cells_ (World.alloc_heap_new W (.cells #[.slice a n c, .slice b m d] T))
  rcases i with _ | _ | i
  · simp at hx
    subst hx
    exact ⟨z0, h.below hb, hn⟩
  · simp at hx
    subst hx
    exact ⟨z1, h2.below hb, hm⟩
  · simp at hx

set_option maxHeartbeats 1000000 in
theorem Alone_no (slot : Int) (a : Option Addr) (n c : Nat) (es : List Ent) (W : World) (h : ScrAt W a n es) (hn : n ≤ maxLen) (E : Int) (hE : wrg1 slot es = E) (h0 : ¬ E = 0) :
    Calls Tryz.prog 20 #[.slice a n c, .int .i64 slot] W fun e w' => e = .returned (.tuple #[.slice none 0 0, .int .i64 E]) ∧ Below W.heap.size W w' := by
  have HC := Lib.hid (wrong_one slot a n c es W h hn 27)
  have h0' : (E != 0) = true := by simpa using h0
  rw [hE] at HC
  clear h hE h0
  go_enter Tryz.func20, Tryz.ntmps20
  go_wp2_with fail
  refine HC.out.mono ?_; rintro e W2 ⟨rfl, hb2⟩
  have HB2 := Lib.hid hb2
  clear hb2
  go_wp2_with fail
  go_ret2
  exact ⟨rfl, HB2.out⟩
set_option maxHeartbeats 1000000 in
theorem Alone_yes (slot : Int) (a : Option Addr) (n c : Nat) (es : List Ent) (W : World) (h : ScrAt W a n es) (hn : n ≤ maxLen) (hE : wrg1 slot es = 0) :
    Calls Tryz.prog 20 #[.slice a n c, .int .i64 slot] W fun e w' => ∃ v, e = .returned (.tuple #[v, .int .i64 0]) ∧ OwnScr w' W.heap.size v (es.filter (aloneP slot)) ∧ Below W.heap.size W w' := by
  have HC := Lib.hid (wrong_one slot a n c es W h hn 27)
  have HOK := Lib.hid (chk_ok (wrg1_ok hE).1)
  have HS := Lib.hid h
  rw [hE] at HC
  clear h hE
  go_enter Tryz.func20, Tryz.ntmps20
  go_wp2_with fail
  refine HC.out.mono ?_; rintro e W2 ⟨rfl, hb2⟩
  have HB2 := Lib.hid hb2
  clear hb2 HC
  go_wp2_with fail
  refine (of_any2 slot W2).mono ?_; rintro e W3 ⟨rfl, hs3, hb3⟩
  have HB3 := Lib.hid (below_step_ HB2.out hb3)
  have HS3 := Lib.hid hs3
  clear hs3 hb3 HB2
  generalize W2.heap.size = bs at *
  go_upto_region 5 with fail
  have hs4 := World.alloc_heap_new W3 (.cells #[.func (.func 100) #[] #[.pointer (some ⟨bs, 0, none⟩)]] 117)
  have hm4 : Mod (fun _ => False) W3 (W3.alloc (.cells #[.func (.func 100) #[] #[.pointer (some ⟨bs, 0, none⟩)]] 117)) := (Mod.refl _ _).alloc _
  generalize W3.alloc (.cells #[.func (.func 100) #[] #[.pointer (some ⟨bs, 0, none⟩)]] 117) = W4 at *
  have HB4 : Hid (Below W.heap.size W W4) := HB3.out.trans (hm4.below HB3.out.size (by simp))
  have HO4 := Lib.hid (cell_of_heap_ hs4)
  have HS4 := Lib.hid (cell_of_heap_ (hm4.heap HS3.out (by simp)))
  clear hs4 hm4 HS3 HB3
  generalize W3.heap.size = bo at *
  go_wp2_with fail
  refine (chosen_any2 _ _ ⟨a, n, c, rfl⟩ ⟨_, _, rfl⟩ W4).mono ?_; rintro e W5 ⟨rfl, h5, hb5⟩
  have HB5 := Lib.hid (below_step_ HB4.out hb5)
  have HM5 : Hid (Mod (fun _ => False) W4 W5) := Mod.of_same hb5
  have HO5 := Lib.hid (HM5.out.cell (by simp) HO4.out)
  have HS5 := Lib.hid (HM5.out.cell (by simp) HS4.out)
  have H5 := Lib.hid h5
  clear h5 hb5 HM5 HO4 HS4 HB4
  generalize W4.heap.size = bl at *
  go_wp2_with fail
  refine (Collect_any a n c _ es (aloneP slot) bl (bl + 1) (fun e he => Nat.le_trans (clean_size (HOK.out.2 e he)) (by omega)) hn W5 (is_alone slot bo bs W5.heap.size W5 HO5.out HS5.out (World.block_lt_of_cell? W5 _ HO5.out) (World.block_lt_of_cell? W5 _ HS5.out)) H5.out (HS.out.below HB5.out) (by have := HOK.out.1; omega)).mono ?_; rintro e W6 ⟨v, rfl, ho, hb6⟩
  obtain ⟨va, vc, rfl⟩ := ho.form
  have HO6 := Lib.hid (ho.base HB5.out.size)
  have HB6 := Lib.hid (below_step_ HB5.out hb6)
  clear ho hb6
  go_wp2_with fail
  go_ret2
  exact ⟨_, rfl, HO6.out, HB6.out⟩

set_option maxHeartbeats 1000000 in
theorem Others_no (slot : Int) (a : Option Addr) (n c : Nat) (es : List Ent) (W : World) (h : ScrAt W a n es) (hn : n ≤ maxLen) (E : Int) (hE : wrg1 slot es = E) (h0 : ¬ E = 0) :
    Calls Tryz.prog 21 #[.slice a n c, .int .i64 slot] W fun e w' => e = .returned (.tuple #[.slice none 0 0, .int .i64 E]) ∧ Below W.heap.size W w' := by
  have HC := Lib.hid (wrong_one slot a n c es W h hn 27)
  have h0' : (E != 0) = true := by simpa using h0
  rw [hE] at HC
  clear h hE h0
  go_enter Tryz.func21, Tryz.ntmps21
  go_wp2_with fail
  refine HC.out.mono ?_; rintro e W2 ⟨rfl, hb2⟩
  have HB2 := Lib.hid hb2
  clear hb2
  go_wp2_with fail
  go_ret2
  exact ⟨rfl, HB2.out⟩
set_option maxHeartbeats 1000000 in
theorem Others_yes (slot : Int) (a : Option Addr) (n c : Nat) (es : List Ent) (W : World) (h : ScrAt W a n es) (hn : n ≤ maxLen) (hE : wrg1 slot es = 0) :
    Calls Tryz.prog 21 #[.slice a n c, .int .i64 slot] W fun e w' => ∃ v, e = .returned (.tuple #[v, .int .i64 0]) ∧ OwnScr w' W.heap.size v (es.filter (othersP slot)) ∧ Below W.heap.size W w' := by
  have HC := Lib.hid (wrong_one slot a n c es W h hn 27)
  have HOK := Lib.hid (chk_ok (wrg1_ok hE).1)
  have HS := Lib.hid h
  rw [hE] at HC
  clear h hE
  go_enter Tryz.func21, Tryz.ntmps21
  go_wp2_with fail
  refine HC.out.mono ?_; rintro e W2 ⟨rfl, hb2⟩
  have HB2 := Lib.hid hb2
  clear hb2 HC
  go_wp2_with fail
  refine (of_any2 slot W2).mono ?_; rintro e W3 ⟨rfl, hs3, hb3⟩
  have HB3 := Lib.hid (below_step_ HB2.out hb3)
  have HS3 := Lib.hid hs3
  clear hs3 hb3 HB2
  generalize W2.heap.size = bs at *
  go_upto_region 5 with fail
  have hs4 := World.alloc_heap_new W3 (.cells #[.func (.func 100) #[] #[.pointer (some ⟨bs, 0, none⟩)]] 117)
  have hm4 : Mod (fun _ => False) W3 (W3.alloc (.cells #[.func (.func 100) #[] #[.pointer (some ⟨bs, 0, none⟩)]] 117)) := (Mod.refl _ _).alloc _
  generalize W3.alloc (.cells #[.func (.func 100) #[] #[.pointer (some ⟨bs, 0, none⟩)]] 117) = W4 at *
  have HB4 : Hid (Below W.heap.size W W4) := HB3.out.trans (hm4.below HB3.out.size (by simp))
  have HO4 := Lib.hid (cell_of_heap_ hs4)
  have HS4 := Lib.hid (cell_of_heap_ (hm4.heap HS3.out (by simp)))
  clear hs4 hm4 HS3 HB3
  generalize W3.heap.size = bo at *
  go_wp2_with fail
  refine (chosen_any2 _ _ ⟨a, n, c, rfl⟩ ⟨_, _, rfl⟩ W4).mono ?_; rintro e W5 ⟨rfl, h5, hb5⟩
  have HB5 := Lib.hid (below_step_ HB4.out hb5)
  have HM5 : Hid (Mod (fun _ => False) W4 W5) := Mod.of_same hb5
  have HO5 := Lib.hid (HM5.out.cell (by simp) HO4.out)
  have HS5 := Lib.hid (HM5.out.cell (by simp) HS4.out)
  have H5 := Lib.hid h5
  clear h5 hb5 HM5 HO4 HS4 HB4
  generalize W4.heap.size = bl at *
  go_wp2_with fail
  refine (Collect_any a n c _ es (othersP slot) bl (bl + 1) (fun e he => Nat.le_trans (clean_size (HOK.out.2 e he)) (by omega)) hn W5 (is_others slot bo bs W5.heap.size W5 HO5.out HS5.out (World.block_lt_of_cell? W5 _ HO5.out) (World.block_lt_of_cell? W5 _ HS5.out)) H5.out (HS.out.below HB5.out) (by have := HOK.out.1; omega)).mono ?_; rintro e W6 ⟨v, rfl, ho, hb6⟩
  obtain ⟨va, vc, rfl⟩ := ho.form
  have HO6 := Lib.hid (ho.base HB5.out.size)
  have HB6 := Lib.hid (below_step_ HB5.out hb6)
  clear ho hb6
  go_wp2_with fail
  go_ret2
  exact ⟨_, rfl, HO6.out, HB6.out⟩
end View
end Go.Proofs.YtdfmgneicdpjmaaGreat

/- The reference of layer 42: number, clean, Check, Slot, own, ticks. -/
namespace Go.Proofs.YtdfmgneicdpjmaaGreat
open Go.RowKit Go.Shelf
set_option linter.unusedVariables false
set_option linter.unusedSimpArgs false
set_option maxRecDepth 100000
namespace View
open Resp

theorem numberR_any (n : Int) (w : World) : Calls Tryz.prog 95 #[.int .i64 n] w fun e w' => e = .returned (.bool (withinB n)) ∧ w = w' := by
  by_cases h1 : 0 ≤ n
  · by_cases h2 : n ≤ 4294967295
    · have HE : Hid (withinB n = true) := by unfold withinB; exact decide_eq_true ⟨h1, h2⟩
      go_enter Tryz.func95, Tryz.ntmps95
      go_wp2_with fail
      go_ret
      exact ⟨by rw [HE.out]; simp, rfl⟩
    · have HE : Hid (withinB n = false) := by unfold withinB; exact decide_eq_false (by omega)
      go_enter Tryz.func95, Tryz.ntmps95
      go_wp2_with fail
      go_ret
      exact ⟨by rw [HE.out]; simp, rfl⟩
  · have HE : Hid (withinB n = false) := by unfold withinB; exact decide_eq_false (by omega)
    go_enter Tryz.func95, Tryz.ntmps95
    go_wp2_with fail
    go_ret
    exact ⟨by rw [HE.out]; rfl, rfl⟩
theorem size_zero_ {b : ByteArray} (h : b.size = 0) : b = ByteArray.empty := by
  cases b with
  | mk d =>
    have : d = #[] := Array.eq_empty_of_size_eq_zero h
    rw [this]
    rfl
set_option maxHeartbeats 1000000 in
theorem cleanR_any (k s n : Int) (v : Value) (b : ByteArray) (w : World) (h : StrAt w v b) :
    Calls Tryz.prog 94 #[.agg #[.int .u8 k, .int .i64 s, .int .i64 n, v]] w fun e w' => e = .returned (.bool (cleanB ⟨k, s, n, b⟩)) ∧ Below w.heap.size w w' := by
  obtain ⟨a, c, rfl⟩ := h.form
  have hb : Below w.heap.size w (w.alloc (.cells #[.int .u8 k, .int .i64 s, .int .i64 n, .slice a b.size c] 158)) := (Below.refl _ _).alloc (Nat.le_refl _) _
  have HB := Lib.hid hb
  clear hb h
  by_cases h1 : k = 1
  · subst h1
    by_cases hs : withinB s = true
    · by_cases hn : n = 0
      · subst hn
        by_cases hl : (b.size : Int) ≤ 16384
        · have HE : Hid (cleanB ⟨1, s, 0, b⟩ = true) := by simp [Hid, cleanB, hs]; omega
          go_enter Tryz.func94, Tryz.ntmps94
          go_wp2_with fail
          refine (numberR_any _ _).mono ?_; rintro e w' ⟨rfl, rfl⟩
          go_wp2_with fail
          go_ret
          exact ⟨by rw [HE.out]; simp, HB.out⟩
        · have HE : Hid (cleanB ⟨1, s, 0, b⟩ = false) := by simp [Hid, cleanB, hs]; omega
          go_enter Tryz.func94, Tryz.ntmps94
          go_wp2_with fail
          refine (numberR_any _ _).mono ?_; rintro e w' ⟨rfl, rfl⟩
          go_wp2_with fail
          go_ret
          exact ⟨by rw [HE.out]; simp; omega, HB.out⟩
      · have hn' : (n == 0) = false := by simpa using hn
        have HE : Hid (cleanB ⟨1, s, n, b⟩ = false) := by simp [Hid, cleanB, hn]
        clear hn
        go_enter Tryz.func94, Tryz.ntmps94
        go_wp2_with fail
        refine (numberR_any _ _).mono ?_; rintro e w' ⟨rfl, rfl⟩
        go_wp2_with fail
        go_ret
        exact ⟨by rw [HE.out]; simp, HB.out⟩
    · have hs' : withinB s = false := by simpa using hs
      have HE : Hid (cleanB ⟨1, s, n, b⟩ = false) := by simp [Hid, cleanB, hs']
      clear hs
      go_enter Tryz.func94, Tryz.ntmps94
      go_wp2_with fail
      refine (numberR_any _ _).mono ?_; rintro e w' ⟨rfl, rfl⟩
      go_wp2_with fail
      go_ret
      exact ⟨by rw [HE.out]; simp, HB.out⟩
  · have h1' : (k == 1) = false := by simpa using h1
    by_cases hs : s = 0
    · by_cases hl : b.size = 0
      · obtain rfl := size_zero_ hl
        subst hs
        clear hl
        have hbs : ByteArray.empty.size = 0 := rfl
        by_cases h2 : k = 2
        · subst h2
          by_cases hn : n = 0
          · subst hn
            have HE : Hid (cleanB ⟨2, 0, 0, ByteArray.empty⟩ = true) := by simp [Hid, cleanB, sameB]
            clear h1
            go_enter Tryz.func94, Tryz.ntmps94
            go_wp2_with fail
            go_ret
            exact ⟨by rw [HE.out]; rfl, HB.out⟩
          · have hn' : (n == 0) = false := by simpa using hn
            have HE : Hid (cleanB ⟨2, 0, n, ByteArray.empty⟩ = false) := by simp [Hid, cleanB, sameB, hn]
            clear h1 hn
            go_enter Tryz.func94, Tryz.ntmps94
            go_wp2_with fail
            go_ret
            exact ⟨by rw [HE.out]; rfl, HB.out⟩
        · have h2' : (k == 2) = false := by simpa using h2
          by_cases h3 : k = 3
          · subst h3
            have HE : Hid (cleanB ⟨3, 0, n, ByteArray.empty⟩ = withinB n) := by simp [Hid, cleanB, sameB]
            clear h1 h2
            go_enter Tryz.func94, Tryz.ntmps94
            go_wp2_with fail
            refine (numberR_any _ _).mono ?_; rintro e w' ⟨rfl, rfl⟩
            go_wp2_with fail
            go_ret
            exact ⟨by rw [HE.out]; rfl, HB.out⟩
          · have h3' : (k == 3) = false := by simpa using h3
            have HE : Hid (cleanB ⟨k, 0, n, ByteArray.empty⟩ = false) := by simp [Hid, cleanB, h1, h2, h3]
            clear h1 h2 h3
            go_enter Tryz.func94, Tryz.ntmps94
            go_wp2_with fail
            go_ret
            exact ⟨by rw [HE.out]; rfl, HB.out⟩
      · have hl' : ((b.size : Int) != 0) = true := by rw [bne_iff_ne]; omega
        have hne : ¬ b = ByteArray.empty := fun e => hl (by rw [e]; rfl)
        have HE : Hid (cleanB ⟨k, s, n, b⟩ = false) := by simp [Hid, cleanB, sameB, h1, hne]
        subst hs
        clear h1 hl hne
        go_enter Tryz.func94, Tryz.ntmps94
        go_wp2_with fail
        go_ret
        exact ⟨by rw [HE.out]; rfl, HB.out⟩
    · have hs' : (s != 0) = true := by simpa using hs
      have HE : Hid (cleanB ⟨k, s, n, b⟩ = false) := by simp [Hid, cleanB, sameB, h1, hs]
      clear h1 hs
      go_enter Tryz.func94, Tryz.ntmps94
      go_wp2_with fail
      go_ret
      exact ⟨by rw [HE.out]; rfl, HB.out⟩

set_option maxHeartbeats 1000000 in
theorem CheckR_any (a : Option Addr) (n c : Nat) (es : List Ent) (W : World) (h : ScrAt W a n es) (hn : n ≤ maxLen) :
    Calls Tryz.prog 47 #[.slice a n c] W fun e w' => e = .returned (.tuple #[.int .i64 (chkI es), .int .i64 (chkE es)]) ∧ Below W.heap.size W w' := by
  have hl := h.1
  unfold maxLen at hn
  by_cases hm : 4000 < n
  · have hmI : (4000 : Int) < n := by omega
    have HI : Hid (chkI es = -1) := by simp [Hid, chkI, hl, hm]
    have HE : Hid (chkE es = 5) := by simp [Hid, chkE, hl, hm]
    clear hl h
    go_enter Tryz.func47, Tryz.ntmps47
    go_wp2_with fail
    go_ret2
    exact ⟨by rw [HI.out, HE.out]; rfl, Below.refl _ _⟩
  · have hmI : ¬ (4000 : Int) < n := by omega
    have HI : Hid (chkI es = if badAt es < es.length then (badAt es : Int) else -1) := by simp [Hid, chkI, hl, hm]
    have HE : Hid (chkE es = if badAt es < es.length then 410 else 0) := by simp [Hid, chkE, hl, hm]
    have H := Lib.hid h
    have HL := Lib.hid hl
    clear hl h
    go_enter Tryz.func47, Tryz.ntmps47
    go_wp2_with fail
    go_loopw [4] (fun i wr => ∃ k : Nat, k ≤ n ∧ i = .int .i64 k ∧ Hid (k ≤ badAt es) ∧ Hid (Below W.heap.size W wr)) (fun i _ => n - (intOf i).toNat)
    case atStart => exact ⟨0, Nat.zero_le _, rfl, Nat.zero_le _, Below.refl _ _⟩
    case round =>
      obtain ⟨k, hk, rfl, HKB, HB⟩ := hrel
      by_cases hlt : k < n
      · have hltI : (k : Int) < n := by omega
        have hk2 : k < es.length := by have := HL.out; omega
        obtain ⟨b, o, v, sa, sc, rfl, hbl, c0, c1, c2, c3, hst, rfl⟩ := (H.out.below HB.out).at_ hk2
        have HST := Lib.hid hst
        clear hst hbl
        by_cases hcl : cleanB es[k] = true
        · have HN : Hid (k + 1 ≤ badAt es) := by
            have h1 := HKB.out
            rcases Nat.lt_or_ge k (badAt es) with h2 | h2
            · exact h2
            · exfalso
              have h3 : badAt es = k := by omega
              have h4 : badAt es < es.length := by omega
              have := List.findIdx_getElem (p := fun e => !cleanB e) (w := h4)
              have h5 : es[badAt es]'h4 = es[k] := by congr 1
              unfold badAt at h4 h5
              rw [h5] at this
              simp [hcl] at this
          have HC := Lib.hid (cleanR_any es[k].kind es[k].slot es[k].n (.slice sa es[k].bytes.size sc) es[k].bytes _ HST.out)
          generalize hz : es[k] = z at *
          have HCL := Lib.hid hcl
          clear hz hcl hk2
          go_wp2_with fail
          refine HC.out.mono ?_; rintro e w' ⟨rfl, hb3⟩
          have HB3 := Lib.hid (below_step_ HB.out hb3)
          rw [show (⟨z.kind, z.slot, z.n, z.bytes⟩ : Ent) = z from rfl, HCL.out]
          clear hb3
          go_wp2_with fail
          exact ⟨⟨k + 1, by omega, by simp, HN.out, HB3.out⟩, by simp [intOf]; omega⟩
        · have HN : Hid (badAt es = k) := by
            have h1 := HKB.out
            rcases Nat.lt_or_ge k (badAt es) with h2 | h2
            · exfalso
              have := List.not_of_lt_findIdx (p := fun e => !cleanB e) h2
              simp at this
              exact hcl this
            · show badAt es = k
              omega
          have hcl' : cleanB es[k] = false := by simpa using hcl
          have HC := Lib.hid (cleanR_any es[k].kind es[k].slot es[k].n (.slice sa es[k].bytes.size sc) es[k].bytes _ HST.out)
          generalize hz : es[k] = z at *
          have HCL := Lib.hid hcl'
          clear hz hcl hcl'
          have HK2 := Lib.hid hk2
          clear hk2
          go_wp2_with fail
          refine HC.out.mono ?_; rintro e w' ⟨rfl, hb3⟩
          have HB3 := Lib.hid (below_step_ HB.out hb3)
          rw [show (⟨z.kind, z.slot, z.n, z.bytes⟩ : Ent) = z from rfl, HCL.out]
          clear hb3
          go_wp2_with fail
          go_ret2
          refine ⟨?_, HB3.out⟩
          rw [HI.out, HE.out, HN.out, if_pos HK2.out, if_pos HK2.out]
          rfl
      · obtain rfl : k = n := by omega
        have HN : Hid (¬ badAt es < es.length) := by
          have h1 := HKB.out
          have h2 := HL.out
          show ¬ badAt es < es.length
          omega
        go_wp2_with fail
        go_ret2
        refine ⟨?_, HB.out⟩
        rw [HI.out, HE.out, if_neg HN.out, if_neg HN.out]
        rfl

def slotB (n slot : Int) : Bool := withinB slot && (n == 0 || (decide (1 ≤ n) && decide (n ≤ 8)) && decide (slot < n))
theorem SlotR_any (n slot : Int) (w : World) : Calls Tryz.prog 48 #[.int .i64 n, .int .i64 slot] w fun e w' => e = .returned (.bool (slotB n slot)) ∧ w = w' := by
  by_cases hw : withinB slot = true
  · by_cases hn : n = 0
    · subst hn
      have HE : Hid (slotB 0 slot = true) := by simp [Hid, slotB, hw]
      go_enter Tryz.func48, Tryz.ntmps48
      go_wp2_with fail
      refine (numberR_any _ _).mono ?_; rintro e w' ⟨rfl, rfl⟩
      go_wp2_with fail
      go_ret
      exact ⟨by rw [HE.out]; simp, rfl⟩
    · have hn' : (n == 0) = false := by simpa using hn
      by_cases h1 : 1 ≤ n
      · by_cases h2 : n ≤ 8
        · by_cases h3 : slot < n
          · have HE : Hid (slotB n slot = true) := by simp [Hid, slotB, hw, hn, h1, h2, h3]
            clear hn
            go_enter Tryz.func48, Tryz.ntmps48
            go_wp2_with fail
            refine (numberR_any _ _).mono ?_; rintro e w' ⟨rfl, rfl⟩
            go_wp2_with fail
            go_ret
            exact ⟨by rw [HE.out]; simp, rfl⟩
          · have HE : Hid (slotB n slot = false) := by simp [Hid, slotB, hn, h3]
            clear hn
            go_enter Tryz.func48, Tryz.ntmps48
            go_wp2_with fail
            refine (numberR_any _ _).mono ?_; rintro e w' ⟨rfl, rfl⟩
            go_wp2_with fail
            go_ret
            exact ⟨by rw [HE.out]; simp; omega, rfl⟩
        · have HE : Hid (slotB n slot = false) := by simp [Hid, slotB, hn, h2]
          clear hn
          go_enter Tryz.func48, Tryz.ntmps48
          go_wp2_with fail
          refine (numberR_any _ _).mono ?_; rintro e w' ⟨rfl, rfl⟩
          go_wp2_with fail
          go_ret
          exact ⟨by rw [HE.out]; simp, rfl⟩
      · have HE : Hid (slotB n slot = false) := by simp [Hid, slotB, hn, h1]
        clear hn
        go_enter Tryz.func48, Tryz.ntmps48
        go_wp2_with fail
        refine (numberR_any _ _).mono ?_; rintro e w' ⟨rfl, rfl⟩
        go_wp2_with fail
        go_ret
        exact ⟨by rw [HE.out]; simp, rfl⟩
  · have hw' : withinB slot = false := by simpa using hw
    have HE : Hid (slotB n slot = false) := by simp [Hid, slotB, hw']
    clear hw
    go_enter Tryz.func48, Tryz.ntmps48
    go_wp2_with fail
    refine (numberR_any _ _).mono ?_; rintro e w' ⟨rfl, rfl⟩
    go_wp2_with fail
    go_ret
    exact ⟨by rw [HE.out]; simp, rfl⟩
theorem ownR_any (e : Ent) (v : Value) (hv : ∃ a n c, v = .slice a n c) (slot : Int) (w : World) : Calls Tryz.prog 96 #[.agg #[.int .u8 e.kind, .int .i64 e.slot, .int .i64 e.n, v], .int .i64 slot] w fun r w' => r = .returned (.bool (ownB slot e)) ∧ Below w.heap.size w w' := by
  obtain ⟨a, n, c, rfl⟩ := hv
  have hbz : Below w.heap.size w (w.alloc (.cells #[.int .u8 e.kind, .int .i64 e.slot, .int .i64 e.n, .slice a n c] 158)) := (Below.refl _ _).alloc (Nat.le_refl _) _
  have HB := Lib.hid hbz
  clear hbz
  by_cases hk : e.kind = 1
  · by_cases hs : e.slot = slot
    · have HE : Hid (ownB slot e = true) := by simp [Hid, ownB, hk, hs]
      rw [hk] at HB ⊢
      rw [hs] at HB ⊢
      clear hk hs
      go_enter Tryz.func96, Tryz.ntmps96
      go_wp2_with fail
      go_ret
      exact ⟨by rw [HE.out]; rfl, HB.out⟩
    · have hs' : (e.slot == slot) = false := by simpa using hs
      have HE : Hid (ownB slot e = false) := by simp [Hid, ownB, hs]
      rw [hk] at HB ⊢
      clear hk hs
      go_enter Tryz.func96, Tryz.ntmps96
      go_wp2_with fail
      go_ret
      exact ⟨by rw [HE.out]; rfl, HB.out⟩
  · have hk' : (e.kind == 1) = false := by simpa using hk
    have HE : Hid (ownB slot e = false) := by simp [Hid, ownB, hk]
    clear hk
    go_enter Tryz.func96, Tryz.ntmps96
    go_wp2_with fail
    go_ret
    exact ⟨by rw [HE.out]; rfl, HB.out⟩
def tickB (e : Ent) : Bool := e.kind == 2
def ticksN (es : List Ent) : Nat := (es.filter tickB).length
set_option maxHeartbeats 1000000 in
theorem ticksR_any (a : Option Addr) (n c : Nat) (es : List Ent) (W : World) (h : ScrAt W a n es) (hn : n ≤ maxLen) :
    Calls Tryz.prog 97 #[.slice a n c] W fun e w' => e = .returned (.int .i64 (ticksN es : Int)) ∧ w' = W := by
  unfold maxLen at hn
  have H := Lib.hid h
  have HL := Lib.hid h.1
  clear h
  go_enter Tryz.func97, Tryz.ntmps97
  go_wp2_with fail
  go_loop [3, 4] (fun t i => ∃ k j : Nat, k ≤ n ∧ j ≤ k ∧ i = .int .i64 k ∧ t = .int .i64 j ∧ Hid (j = ticksN (es.take k))) (fun _ i => n - (intOf i).toNat)
  case atStart => exact ⟨0, 0, Nat.zero_le _, Nat.zero_le _, rfl, rfl, rfl⟩
  case round =>
    obtain ⟨k, j, hk, hj, rfl, rfl, HJ⟩ := hrel
    by_cases hlt : k < n
    · have hltI : (k : Int) < n := by omega
      have hk2 : k < es.length := by have := HL.out; omega
      obtain ⟨b, o, v, sa, sc, rfl, hbl, c0, c1, c2, c3, hst, rfl⟩ := H.out.at_ hk2
      have HT := Lib.hid (filter_take_succ (p := tickB) hk2)
      clear hst hbl c1 c2 c3
      generalize es[k] = z at *
      clear hk2
      by_cases hz : z.kind = 2
      · have HJ2 : Hid (j + 1 = ticksN (es.take (k + 1))) := by
          have := HJ.out
          unfold ticksN at this ⊢
          rw [Hid, HT.out]; simp [tickB, hz, this]
        rw [hz] at c0
        clear hz
        go_wp2_with fail
        go_round
        case rel => exact ⟨k + 1, j + 1, by omega, by omega, by go_num, by go_num, HJ2.out⟩
        case measure => simp [intOf]; omega
      · have hz' : (z.kind == 2) = false := by simpa using hz
        have HJ2 : Hid (j = ticksN (es.take (k + 1))) := by
          have := HJ.out
          unfold ticksN at this ⊢
          rw [Hid, HT.out]; simp [tickB, hz, this]
        clear hz
        go_wp2_with fail
        go_round
        case rel => exact ⟨k + 1, j, by omega, by omega, by go_num, rfl, HJ2.out⟩
        case measure => simp [intOf]; omega
    · obtain rfl : k = n := by omega
      have HT : Hid (es.take k = es) := List.take_of_length_le (by have := HL.out; omega)
      go_wp2_with fail
      go_ret
      refine ⟨?_, rfl⟩
      have := HJ.out
      rw [HT.out] at this
      rw [← this]
      rfl
end View
end Go.Proofs.YtdfmgneicdpjmaaGreat

/- Rows of a reference's results, whose bytes lie elsewhere; the reference's Frames, Parts, Moves. -/
namespace Go.Proofs.YtdfmgneicdpjmaaGreat
open Go.RowKit Go.Shelf
set_option linter.unusedVariables false
set_option linter.unusedSimpArgs false
set_option maxRecDepth 100000
namespace View
open Resp

/-- The shape of an element: its type, its cells (the last value: its bytes). -/
structure Sh (α : Type) where
  T : TypeId
  size : Nat
  cells : α → Value → List Value
  byt : α → ByteArray
def Sh.flat {α : Type} (K : Sh α) (l : List (α × Value)) : List Value := l.flatMap fun x => K.cells x.1 x.2
theorem Sh.flat_push {α : Type} (K : Sh α) (l : List (α × Value)) (e : α) (v : Value) : K.flat (l ++ [(e, v)]) = K.flat l ++ K.cells e v := by simp [Sh.flat]
/-- A row of its own, whose bytes can be read in every world of D. -/
def LRow {α : Type} (K : Sh α) (D : World → Prop) (W : World) (base : Nat) (sv : Value) (l : List (α × Value)) : Prop := W.ownsRow base K.T K.size sv l.length (K.flat l) ∧ ∀ x ∈ l, ∀ W', D W' → StrAt W' x.2 (K.byt x.1)
theorem LRow.nil {α : Type} (K : Sh α) (D : World → Prop) (W : World) (base : Nat) : LRow K D W base (.slice none 0 0) [] := ⟨owns_nil _ _ _ _, by simp⟩
theorem LRow.push {α : Type} {K : Sh α} {D : World → Prop} {W W3 : World} {base : Nat} {sv v' v : Value} {l : List (α × Value)} {e : α} (h : LRow K D W base sv l) (hv : ∀ W', D W' → StrAt W' v (K.byt e))
    (ho : W3.ownsRow base K.T K.size v' (l.length + 1) (K.flat l ++ K.cells e v)) : LRow K D W3 base v' (l ++ [(e, v)]) := by
  refine ⟨by rw [K.flat_push]; simpa using ho, fun x hx W' hW' => ?_⟩
  rcases List.mem_append.1 hx with hx | hx
  · exact h.2 x hx W' hW'
  · obtain rfl := List.mem_singleton.1 hx
    exact hv W' hW'
theorem LRow.below {α : Type} {K : Sh α} {D : World → Prop} {W W3 : World} {base : Nat} {sv : Value} {l : List (α × Value)} (h : LRow K D W base sv l) (hm : Below W.heap.size W W3) : LRow K D W3 base sv l :=
  ⟨ownsRow_mod h.1 (Mod.of_same (S := fun _ => False) hm) (by simp), h.2⟩
theorem LRow.keep {α : Type} {K : Sh α} {D : World → Prop} {S : Nat → Prop} {W W3 : World} {base : Nat} {sv : Value} {l : List (α × Value)} (h : LRow K D W base sv l) (hm : Mod S W W3) (ho : ∀ g, sv.ownBlock = some g → ¬ S g) : LRow K D W3 base sv l :=
  ⟨ownsRow_mod h.1 hm ho, h.2⟩
/-- The bytes of the entries that lie at a can be read in every world of D. -/
def DatOf (D : World → Prop) (W : World) (a : Option Addr) (es : List Ent) : Prop := ∀ i e b o v, a = some ⟨b, o, none⟩ → es[i]? = some e → W.cell? ⟨b, o + i * 4 + 3, none⟩ = some v → ∀ W', D W' → StrAt W' v e.bytes
def bytSh : Sh ByteArray := ⟨25, 1, fun _ v => [v], id⟩
def entSh : Sh Ent := ⟨158, 4, entC, Ent.bytes⟩
def movSh : Sh (Bool × ByteArray) := ⟨162, 2, fun m v => [.bool m.1, v], fun m => m.2⟩
theorem infoRefEnt : (Tryz.prog.info? 158).map (fun i => (i.zero, i.size, i.bytes)) = some (some (.agg #[.int .u8 0, .int .i64 0, .int .i64 0, .slice none 0 0]), 4, 48) := by kernel_rfl
theorem infoRefMov : (Tryz.prog.info? 162).map (fun i => (i.zero, i.size, i.bytes)) = some (some (.agg #[.bool false, .slice none 0 0]), 2, 32) := by kernel_rfl
theorem grown_below_ {base : Nat} {W W3 : World} {e : TypeId} {size n : Nat} {v : Value} {xs : List Value} {o : Obj} (h : W.ownsRow base e size v n xs) (hg : (W.alloc o).grownBy W3 v.ownBlock) (hb : base ≤ W.heap.size) : Below base W W3 :=
  (((Mod.refl _ W).alloc o).trans (Mod.of_grownBy hg)).below hb (fun k hk h1 => by have := ownBlock_ge_ h h1.symm; omega)
def framesL (slot : Int) (es : List Ent) : List ByteArray := (es.filter (ownB slot)).map Ent.bytes
theorem framesL_take {slot : Int} {es : List Ent} {k : Nat} (hk : k < es.length) : framesL slot (es.take (k + 1)) = framesL slot (es.take k) ++ if ownB slot es[k] then [es[k].bytes] else [] := by
  unfold framesL
  rw [filter_take_succ hk, List.map_append]
  by_cases h : ownB slot es[k] = true <;> simp [h]
set_option maxHeartbeats 2000000 in
theorem FramesR_any (slot : Int) (a : Option Addr) (n c : Nat) (es : List Ent) (W : World) (h : ScrAt W a n es) (hn : n ≤ 4000) (D : World → Prop) (hD : DatOf D W a es) :
    Calls Tryz.prog 50 #[.slice a n c, .int .i64 slot] W fun e w' => ∃ v l, e = .returned v ∧ l.map Prod.fst = framesL slot es ∧ LRow bytSh D w' W.heap.size v l ∧ Below W.heap.size W w' := by
  obtain ⟨i1, hi, hz0, hz1, hz2⟩ := info_parts infoBytes
  have H := Lib.hid h
  have HDA := Lib.hid hD
  clear hD
  have HL := Lib.hid h.1
  have hnI : (n : Int) ≤ 4000 := by omega
  clear h
  generalize hX : W.heap.size = X at *
  have HX := Lib.hid hX
  clear hX
  go_enter Tryz.func50, Tryz.ntmps50
  go_wp2_with fail
  go_loopw [5, 6] (fun d i wr => ∃ (k : Nat) (l : List (ByteArray × Value)) (da : Option Addr) (dc : Nat), k ≤ n ∧ l.length ≤ k ∧ i = .int .i64 k ∧ d = .slice da l.length dc ∧ Hid (l.map Prod.fst = framesL slot (es.take k)) ∧ Hid (LRow bytSh D wr X (.slice da l.length dc) l) ∧ Hid (Below X W wr)) (fun _ i _ => n - (intOf i).toNat)
  case atStart => exact ⟨0, [], none, 0, Nat.zero_le _, Nat.zero_le _, rfl, rfl, by simp [Hid, framesL], LRow.nil _ _ _ _, Below.refl _ _⟩
  case round =>
    obtain ⟨k, l, da, dc, hk, hlk, rfl, rfl, HF, HR, HB⟩ := hrel
    by_cases hlt : k < n
    · have hltI : (k : Int) < n := by omega
      have hk2 : k < es.length := by have := HL.out; omega
      have hXw : X ≤ wr.heap.size := by have := HB.out.size; have := HX.out; omega
      have HS := Lib.hid (H.out.below (by have := HB.out; rw [← HX.out] at this; exact this))
      obtain ⟨b, o, v, sa, sc, rfl, hbl, c0, c1, c2, c3, hst, rfl⟩ := HS.out.at_ hk2
      have HFT := Lib.hid (framesL_take (slot := slot) hk2)
      have HLOW : Hid (∀ W', D W' → StrAt W' (.slice sa es[k].bytes.size sc) es[k].bytes) := by
        obtain ⟨b', o', v', sa', sc', e1, g1, g2, g3, g4, g5, g6, rfl⟩ := H.out.at_ hk2
        cases e1
        have h5 := (by have := HB.out; rw [← HX.out] at this; exact this : Below W.heap.size W wr).cell (p := ⟨b, o + k * 4 + 3, none⟩) g1
        rw [g5, c3] at h5
        cases h5
        exact HDA.out k _ b o _ rfl (List.getElem?_eq_getElem hk2) g5
      generalize es[k] = z at *
      clear hk2 hbl hst HS
      have hw1 : IntKind.i64.wrap ((k : Int) + 1) = (k : Int) + 1 := by rw [IntKind.wrap_i64]; omega
      by_cases hz : ownB slot z = true
      · go_wp2_with fail
        refine (ownR_any z _ ⟨_, _, _, rfl⟩ slot _).mono ?_; rintro e W2 ⟨rfl, hb2⟩
        rw [hz]
        have HR2 := Lib.hid (HR.out.below hb2)
        have HB2 := Lib.hid (HB.out.trans (hb2.mono hXw))
        have hX2 : X ≤ W2.heap.size := Nat.le_trans hXw hb2.size
        have c3' := (hb2.cell (p := ⟨b, o + k * 4 + 3, none⟩) (World.block_lt_of_cell? wr _ c3)).trans c3
        have HLOW2 := HLOW
        have HFT2 : Hid (framesL slot (es.take (k + 1)) = framesL slot (es.take k) ++ [z.bytes]) := by rw [Hid, HFT.out, hz]; rfl
        clear hb2 c0 c1 c2 c3 HR HB HLOW HFT hz
        generalize z.bytes.size = zn at *
        generalize hll : l.length = ll at *
        have HLL := Lib.hid hll
        clear hll
        go_wp2_with (at_builtin; refine wpList_append_own _ rfl _ _ 22 rfl X 25 i1 (.slice none 0 0) 1 24 Tryz.underlying22 hi hz0 hz1 hz2 rfl (by decide) _ ll _ rfl (by have := HR2.out.1; rw [HLL.out] at this; exact this.alloc _) ⟨W2.heap.size, 0, none⟩ 1 1 [.slice sa zn sc] rfl rfl (news_one_ (by simp)) (by simp [Value.oneCell']) (by unfold maxLen; omega) (by omega) (by simp; omega) ?_; intro v' w5 hown' hgrow hat; obtain ⟨a', c', e⟩ := ownsRow_form hown'; subst e; have HOWN := Lib.hid hown'; have HG := Lib.hid hgrow; clear hown' hgrow hat)
        have hbw : Below X W2 w5 := grown_below_ HR2.out.1 HG.out hX2
        have HR5 : Hid (LRow bytSh D w5 X (.slice a' (ll + 1) c') (l ++ [(z.bytes, .slice sa zn sc)])) := HR2.out.push HLOW2.out (by rw [HLL.out]; exact HOWN.out)
        have HB5 := Lib.hid (HB2.out.trans hbw)
        have hlen : (l ++ [(z.bytes, Value.slice sa zn sc)]).length = ll + 1 := by simp [HLL.out]
        refine ⟨⟨k + 1, l ++ [(z.bytes, .slice sa zn sc)], a', c', by omega, by omega, by simp, by rw [hlen], ?_, by rw [hlen]; exact HR5.out, HB5.out⟩, by simp [intOf]; omega⟩
        rw [Hid, HFT2.out, List.map_append, HF.out]
        rfl
      · have hz' : ownB slot z = false := by simpa using hz
        go_wp2_with fail
        refine (ownR_any z _ ⟨_, _, _, rfl⟩ slot _).mono ?_; rintro e W2 ⟨rfl, hb2⟩
        rw [hz']
        have HR2 := Lib.hid (HR.out.below hb2)
        have HB2 := Lib.hid (HB.out.trans (hb2.mono hXw))
        have HFT2 : Hid (framesL slot (es.take (k + 1)) = framesL slot (es.take k)) := by rw [Hid, HFT.out, hz']; simp
        clear hb2 c0 c1 c2 c3 HR HB HLOW HFT hz hz'
        go_wp2_with fail
        exact ⟨⟨k + 1, l, da, dc, by omega, by omega, by simp, rfl, by rw [HFT2.out]; exact HF.out, HR2.out, HB2.out⟩, by simp [intOf]; omega⟩
    · obtain rfl : k = n := by omega
      have HT : Hid (es.take k = es) := List.take_of_length_le (by have := HL.out; omega)
      rw [HT.out] at HF
      go_wp2_with fail
      go_ret
      exact ⟨_, l, rfl, HF.out, HR.out, HB.out⟩
end View
end Go.Proofs.YtdfmgneicdpjmaaGreat

/- The reference's Parts and Moves. -/
namespace Go.Proofs.YtdfmgneicdpjmaaGreat
open Go.RowKit Go.Shelf
set_option linter.unusedVariables false
set_option linter.unusedSimpArgs false
set_option maxRecDepth 100000
namespace View
open Resp

theorem LRow.other {α : Type} {K : Sh α} {D : World → Prop} {W W3 : World} {base : Nat} {xv yv : Value} {l : List (α × Value)} (h : LRow K D W base yv l) (hm : Mod (fun k => some k = xv.ownBlock) W W3) (hd : ∀ g, xv.ownBlock = some g → ¬ yv.ownBlock = some g) : LRow K D W3 base yv l :=
  h.keep hm (fun g hy hg => hd g hg.symm hy)
theorem LRow.lt {α : Type} {K : Sh α} {D : World → Prop} {W : World} {base : Nat} {v : Value} {l : List (α × Value)} (h : LRow K D W base v l) : ∀ g, v.ownBlock = some g → base ≤ g ∧ g < W.heap.size := fun g hg => h.1.lt g hg
theorem othersP_not (slot : Int) (e : Ent) : othersP slot e = !(aloneP slot e) := by simp [othersP, aloneP]
set_option maxHeartbeats 4000000 in
theorem PartsR_any (slot : Int) (a : Option Addr) (n c : Nat) (es : List Ent) (W : World) (h : ScrAt W a n es) (hn : n ≤ 4000) (D : World → Prop) (hD : DatOf D W a es) :
    Calls Tryz.prog 49 #[.slice a n c, .int .i64 slot] W fun e w' => ∃ v1 v2 l1 l2, e = .returned (.tuple #[v1, v2]) ∧ l1.map Prod.fst = es.filter (aloneP slot) ∧ l2.map Prod.fst = es.filter (othersP slot) ∧ LRow entSh D w' W.heap.size v1 l1 ∧ LRow entSh D w' W.heap.size v2 l2 ∧ Below W.heap.size W w' := by
  obtain ⟨i1, ji, jz0, jz1, jz2⟩ := info_parts infoRefEnt
  have H := Lib.hid h
  have HDA := Lib.hid hD
  clear hD
  have HL := Lib.hid h.1
  have hnI : (n : Int) ≤ 4000 := by omega
  clear h
  generalize hX : W.heap.size = X at *
  have HX := Lib.hid hX
  clear hX
  go_enter Tryz.func49, Tryz.ntmps49
  go_wp2_with fail
  go_loopw [6, 7, 8] (fun d f i wr => ∃ (k : Nat) (l : List (Ent × Value)) (da : Option Addr) (dc : Nat) (l2 : List (Ent × Value)) (fa : Option Addr) (fc : Nat), k ≤ n ∧ l.length ≤ k ∧ l2.length ≤ k ∧ i = .int .i64 k ∧ d = .slice da l.length dc ∧ f = .slice fa l2.length fc ∧ Hid (l.map Prod.fst = (es.take k).filter (aloneP slot)) ∧ Hid (l2.map Prod.fst = (es.take k).filter (othersP slot)) ∧ Hid (LRow entSh D wr X (.slice da l.length dc) l) ∧ Hid (LRow entSh D wr X (.slice fa l2.length fc) l2) ∧ Hid (∀ g, (Value.slice da l.length dc).ownBlock = some g → ¬ (Value.slice fa l2.length fc).ownBlock = some g) ∧ Hid (Below X W wr)) (fun _ _ i _ => n - (intOf i).toNat)
  case atStart => exact ⟨0, [], none, 0, [], none, 0, Nat.zero_le _, Nat.zero_le _, Nat.zero_le _, rfl, rfl, rfl, by simp [Hid], by simp [Hid], LRow.nil _ _ _ _, LRow.nil _ _ _ _, by simp [Hid, Value.ownBlock], Below.refl _ _⟩
  case round =>
    obtain ⟨k, l, da, dc, l2, fa, fc, hk, hlk, hlk2, rfl, rfl, rfl, HF, HF2, HR, HR2, HD, HB⟩ := hrel
    by_cases hlt : k < n
    · have hltI : (k : Int) < n := by omega
      have hk2 : k < es.length := by have := HL.out; omega
      have hXw : X ≤ wr.heap.size := by have := HB.out.size; have := HX.out; omega
      have HBW : Hid (Below W.heap.size W wr) := by rw [HX.out]; exact HB.out
      have HS := Lib.hid (H.out.below HBW.out)
      obtain ⟨b, o, v, sa, sc, rfl, hbl, c0, c1, c2, c3, hst, rfl⟩ := HS.out.at_ hk2
      have HFT := Lib.hid (filter_take_succ (p := aloneP slot) hk2)
      have HFT2 := Lib.hid (filter_take_succ (p := othersP slot) hk2)
      have HLOW : Hid (∀ W', D W' → StrAt W' (.slice sa es[k].bytes.size sc) es[k].bytes) := by
        obtain ⟨b', o', v', sa', sc', e1, g1, g2, g3, g4, g5, g6, rfl⟩ := H.out.at_ hk2
        cases e1
        have h5 := HBW.out.cell (p := ⟨b, o + k * 4 + 3, none⟩) g1
        rw [g5, c3] at h5
        cases h5
        exact HDA.out k _ b o _ rfl (List.getElem?_eq_getElem hk2) g5
      generalize es[k] = z at *
      clear hk2 hbl hst HS
      have hw1 : IntKind.i64.wrap ((k : Int) + 1) = (k : Int) + 1 := by rw [IntKind.wrap_i64]; omega
      have HLT := Lib.hid HR.out.lt
      have HLT2 := Lib.hid HR2.out.lt
      by_cases hz2 : z.kind = 2
      · have ha : aloneP slot z = true := by simp [aloneP, hz2]
        have HA : Hid ((es.take (k + 1)).filter (aloneP slot) = (es.take k).filter (aloneP slot) ++ [z]) := by rw [Hid, HFT.out, ha]; rfl
        have HA2 : Hid ((es.take (k + 1)).filter (othersP slot) = (es.take k).filter (othersP slot)) := by rw [Hid, HFT2.out, othersP_not, ha]; simp
        have HZ2 := Lib.hid hz2
        rw [hz2] at c0
        clear ha HFT HFT2 hz2 HBW
        generalize hll : l.length = ll at *
        have HLL := Lib.hid hll
        clear hll
        go_wp2_with (at_builtin; refine wpList_append_lies _ rfl _ _ 95 rfl X 158 i1 (.agg #[.int .u8 0, .int .i64 0, .int .i64 0, .slice none 0 0]) 4 48 Tryz.underlying95 ji jz0 jz1 jz2 rfl (by decide) _ ll _ rfl (by have := HR.out.1; rw [HLL.out] at this; exact this.alloc _) ⟨wr.heap.size, 0, none⟩ 1 1 [.int .u8 2, .int .i64 z.slot, .int .i64 z.n, .slice sa z.bytes.size sc] rfl rfl (news_k_ (World.alloc_heap_new wr (.cells #[.int .u8 2, .int .i64 z.slot, .int .i64 z.n, .slice sa z.bytes.size sc] 158))) (by simp [Value.oneCell']) (by omega) (by unfold maxLen; omega) (by omega) (by simp; omega) _ rfl ?_; intro g' c' w5 hown' hgrow hat hlt'; have HOWN := Lib.hid hown'; have HG := Lib.hid hgrow; have HAT := Lib.hid hat; clear hown' hgrow hat hlt')
        have hbw : Below X wr w5 := grown_below_ HR.out.1 HG.out hXw
        have hm5 : Mod (fun k => some k = (Value.slice da ll dc).ownBlock) wr w5 := ((Mod.refl _ wr).alloc _).trans (Mod.of_grownBy HG.out)
        have HR5 : Hid (LRow entSh D w5 X (.slice (some ⟨g', 0, none⟩) (ll + 1) c') (l ++ [(z, .slice sa z.bytes.size sc)])) := HR.out.push HLOW.out (by rw [HLL.out]; show w5.ownsRow _ _ _ _ _ (_ ++ entC z _); unfold entC; rw [HZ2.out]; exact HOWN.out)
        have HR6 := Lib.hid (HR2.out.other hm5 HD.out)
        have HB5 := Lib.hid (HB.out.trans hbw)
        have hlen : (l ++ [(z, Value.slice sa z.bytes.size sc)]).length = ll + 1 := by simp [HLL.out]
        have HD5 : Hid (∀ g, (Value.slice (some ⟨g', 0, none⟩) (ll + 1) c').ownBlock = some g → ¬ (Value.slice fa l2.length fc).ownBlock = some g) := by
          intro g hg hf
          obtain rfl : g' = g := by simpa [Value.ownBlock] using hg
          rcases HAT.out with h1 | h1
          · exact HD.out _ h1 hf
          · have := (HLT2.out _ hf).2
            simp at h1
            omega
        refine ⟨⟨k + 1, l ++ [(z, .slice sa z.bytes.size sc)], some ⟨g', 0, none⟩, c', l2, fa, fc, by omega, by omega, by omega, by simp, by rw [hlen], rfl, ?_, by rw [HA2.out]; exact HF2.out, by rw [hlen]; exact HR5.out, HR6.out, by rw [hlen]; exact HD5.out, HB5.out⟩, by simp [intOf]; omega⟩
        rw [Hid, HA.out, List.map_append, HF.out]
        rfl
      · have hz2' : (z.kind == 2) = false := by simpa using hz2
        by_cases hz : ownB slot z = true
        · have ha : aloneP slot z = true := by simp [aloneP, hz]
          have HA : Hid ((es.take (k + 1)).filter (aloneP slot) = (es.take k).filter (aloneP slot) ++ [z]) := by rw [Hid, HFT.out, ha]; rfl
          have HA2 : Hid ((es.take (k + 1)).filter (othersP slot) = (es.take k).filter (othersP slot)) := by rw [Hid, HFT2.out, othersP_not, ha]; simp
          clear ha HFT HFT2 hz2 HBW
          go_wp2_with fail
          refine (ownR_any z _ ⟨_, _, _, rfl⟩ slot _).mono ?_; rintro e W2 ⟨rfl, hb2⟩
          rw [hz]
          have HRb := Lib.hid (HR.out.below hb2)
          have HR2b := Lib.hid (HR2.out.below hb2)
          have HB2 := Lib.hid (HB.out.trans (hb2.mono hXw))
          have hX2 : X ≤ W2.heap.size := Nat.le_trans hXw hb2.size
          have hsz2 := hb2.size
          have c0' := (hb2.cell (p := ⟨b, o + k * 4, none⟩) (World.block_lt_of_cell? wr _ c0)).trans c0
          have c1' := (hb2.cell (p := ⟨b, o + k * 4 + 1, none⟩) (World.block_lt_of_cell? wr _ c1)).trans c1
          have c2' := (hb2.cell (p := ⟨b, o + k * 4 + 2, none⟩) (World.block_lt_of_cell? wr _ c2)).trans c2
          have c3' := (hb2.cell (p := ⟨b, o + k * 4 + 3, none⟩) (World.block_lt_of_cell? wr _ c3)).trans c3
          have HLOW2 := HLOW
          clear hb2 c0 c1 c2 c3 HR HR2 HB HLOW hz hz2'
          generalize hll : l.length = ll at *
          have HLL := Lib.hid hll
          clear hll
          go_wp2_with (at_builtin; refine wpList_append_lies _ rfl _ _ 95 rfl X 158 i1 (.agg #[.int .u8 0, .int .i64 0, .int .i64 0, .slice none 0 0]) 4 48 Tryz.underlying95 ji jz0 jz1 jz2 rfl (by decide) _ ll _ rfl (by have := HRb.out.1; rw [HLL.out] at this; exact this.alloc _) ⟨W2.heap.size, 0, none⟩ 1 1 (entC z (.slice sa z.bytes.size sc)) rfl rfl (news_k_ (World.alloc_heap_new W2 (.cells #[.int .u8 z.kind, .int .i64 z.slot, .int .i64 z.n, .slice sa z.bytes.size sc] 158))) (by simp [entC, Value.oneCell']) (by omega) (by unfold maxLen; omega) (by omega) (by simp; omega) _ rfl ?_; intro g' c' w5 hown' hgrow hat hlt'; have HOWN := Lib.hid hown'; have HG := Lib.hid hgrow; have HAT := Lib.hid hat; clear hown' hgrow hat hlt')
          have hbw : Below X W2 w5 := grown_below_ HRb.out.1 HG.out hX2
          have hm5 : Mod (fun k => some k = (Value.slice da ll dc).ownBlock) W2 w5 := ((Mod.refl _ W2).alloc _).trans (Mod.of_grownBy HG.out)
          have HR5 : Hid (LRow entSh D w5 X (.slice (some ⟨g', 0, none⟩) (ll + 1) c') (l ++ [(z, .slice sa z.bytes.size sc)])) := HRb.out.push HLOW2.out (by rw [HLL.out]; exact HOWN.out)
          have HR6 := Lib.hid (HR2b.out.other hm5 HD.out)
          have HB5 := Lib.hid (HB2.out.trans hbw)
          have hlen : (l ++ [(z, Value.slice sa z.bytes.size sc)]).length = ll + 1 := by simp [HLL.out]
          have HD5 : Hid (∀ g, (Value.slice (some ⟨g', 0, none⟩) (ll + 1) c').ownBlock = some g → ¬ (Value.slice fa l2.length fc).ownBlock = some g) := by
            intro g hg hf
            obtain rfl : g' = g := by simpa [Value.ownBlock] using hg
            rcases HAT.out with h1 | h1
            · exact HD.out _ h1 hf
            · have := (HLT2.out _ hf).2
              simp at h1
              omega
          refine ⟨⟨k + 1, l ++ [(z, .slice sa z.bytes.size sc)], some ⟨g', 0, none⟩, c', l2, fa, fc, by omega, by omega, by omega, by simp, by rw [hlen], rfl, ?_, by rw [HA2.out]; exact HF2.out, by rw [hlen]; exact HR5.out, HR6.out, by rw [hlen]; exact HD5.out, HB5.out⟩, by simp [intOf]; omega⟩
          rw [Hid, HA.out, List.map_append, HF.out]
          rfl
        · have hz' : ownB slot z = false := by simpa using hz
          have ha : aloneP slot z = false := by simp [aloneP, hz', hz2]
          have HA : Hid ((es.take (k + 1)).filter (aloneP slot) = (es.take k).filter (aloneP slot)) := by rw [Hid, HFT.out, ha]; simp
          have HA2 : Hid ((es.take (k + 1)).filter (othersP slot) = (es.take k).filter (othersP slot) ++ [z]) := by rw [Hid, HFT2.out, othersP_not, ha]; simp
          clear ha HFT HFT2 hz2 HBW
          go_wp2_with fail
          refine (ownR_any z _ ⟨_, _, _, rfl⟩ slot _).mono ?_; rintro e W2 ⟨rfl, hb2⟩
          rw [hz']
          have HRb := Lib.hid (HR.out.below hb2)
          have HR2b := Lib.hid (HR2.out.below hb2)
          have HB2 := Lib.hid (HB.out.trans (hb2.mono hXw))
          have hX2 : X ≤ W2.heap.size := Nat.le_trans hXw hb2.size
          have hsz2 := hb2.size
          have c0' := (hb2.cell (p := ⟨b, o + k * 4, none⟩) (World.block_lt_of_cell? wr _ c0)).trans c0
          have c1' := (hb2.cell (p := ⟨b, o + k * 4 + 1, none⟩) (World.block_lt_of_cell? wr _ c1)).trans c1
          have c2' := (hb2.cell (p := ⟨b, o + k * 4 + 2, none⟩) (World.block_lt_of_cell? wr _ c2)).trans c2
          have c3' := (hb2.cell (p := ⟨b, o + k * 4 + 3, none⟩) (World.block_lt_of_cell? wr _ c3)).trans c3
          have HLOW2 := HLOW
          clear hb2 c0 c1 c2 c3 HR HR2 HB HLOW hz hz' hz2'
          generalize hll : l2.length = ll at *
          have HLL := Lib.hid hll
          clear hll
          go_wp2_with (at_builtin; refine wpList_append_lies _ rfl _ _ 95 rfl X 158 i1 (.agg #[.int .u8 0, .int .i64 0, .int .i64 0, .slice none 0 0]) 4 48 Tryz.underlying95 ji jz0 jz1 jz2 rfl (by decide) _ ll _ rfl (by have := HR2b.out.1; rw [HLL.out] at this; exact this.alloc _) ⟨W2.heap.size, 0, none⟩ 1 1 (entC z (.slice sa z.bytes.size sc)) rfl rfl (news_k_ (World.alloc_heap_new W2 (.cells #[.int .u8 z.kind, .int .i64 z.slot, .int .i64 z.n, .slice sa z.bytes.size sc] 158))) (by simp [entC, Value.oneCell']) (by omega) (by unfold maxLen; omega) (by omega) (by simp; omega) _ rfl ?_; intro g' c' w5 hown' hgrow hat hlt'; have HOWN := Lib.hid hown'; have HG := Lib.hid hgrow; have HAT := Lib.hid hat; clear hown' hgrow hat hlt')
          have hbw : Below X W2 w5 := grown_below_ HR2b.out.1 HG.out hX2
          have hm5 : Mod (fun k => some k = (Value.slice fa ll fc).ownBlock) W2 w5 := ((Mod.refl _ W2).alloc _).trans (Mod.of_grownBy HG.out)
          have HR5 : Hid (LRow entSh D w5 X (.slice (some ⟨g', 0, none⟩) (ll + 1) c') (l2 ++ [(z, .slice sa z.bytes.size sc)])) := HR2b.out.push HLOW2.out (by rw [HLL.out]; exact HOWN.out)
          have HR6 := Lib.hid (HRb.out.other hm5 (fun g h1 h2 => HD.out g h2 h1))
          have HB5 := Lib.hid (HB2.out.trans hbw)
          have hlen : (l2 ++ [(z, Value.slice sa z.bytes.size sc)]).length = ll + 1 := by simp [HLL.out]
          have HD5 : Hid (∀ g, (Value.slice da l.length dc).ownBlock = some g → ¬ (Value.slice (some ⟨g', 0, none⟩) (ll + 1) c').ownBlock = some g) := by
            intro g hf hg
            obtain rfl : g' = g := by simpa [Value.ownBlock] using hg
            rcases HAT.out with h1 | h1
            · exact HD.out _ hf h1
            · have := (HLT.out _ hf).2
              simp at h1
              omega
          refine ⟨⟨k + 1, l, da, dc, l2 ++ [(z, .slice sa z.bytes.size sc)], some ⟨g', 0, none⟩, c', by omega, by omega, by omega, by simp, rfl, by rw [hlen], by rw [HA.out]; exact HF.out, ?_, HR6.out, by rw [hlen]; exact HR5.out, by rw [hlen]; exact HD5.out, HB5.out⟩, by simp [intOf]; omega⟩
          rw [Hid, HA2.out, List.map_append, HF2.out]
          rfl
    · obtain rfl : k = n := by omega
      have HT : Hid (es.take k = es) := List.take_of_length_le (by have := HL.out; omega)
      rw [HT.out] at HF HF2
      go_wp2_with fail
      go_ret2
      exact ⟨_, _, l, l2, rfl, HF.out, HF2.out, HR.out, HR2.out, HB.out⟩
end View
end Go.Proofs.YtdfmgneicdpjmaaGreat

/- The reference's Moves. -/
namespace Go.Proofs.YtdfmgneicdpjmaaGreat
open Go.RowKit Go.Shelf
set_option linter.unusedVariables false
set_option linter.unusedSimpArgs false
set_option maxRecDepth 100000
namespace View
open Resp

def mvStep (n slot : Int) (s : Nat × List (Bool × ByteArray)) (e : Ent) : Nat × List (Bool × ByteArray) :=
  (if tickB e then s.1 + 1 else s.1, if ownB slot e then s.2 ++ [(false, e.bytes)] else if tickB e && decide ((s.1 : Int) % n = slot) then s.2 ++ [(true, ByteArray.empty)] else s.2)
def mv (n slot : Int) (es : List Ent) : Nat × List (Bool × ByteArray) := es.foldl (mvStep n slot) (0, [])
theorem mv_take {n slot : Int} {es : List Ent} {k : Nat} (hk : k < es.length) : mv n slot (es.take (k + 1)) = mvStep n slot (mv n slot (es.take k)) es[k] := by
  unfold mv
  rw [List.take_succ_eq_append_getElem hk, List.foldl_append]
  rfl
theorem mv_fst (n slot : Int) (es : List Ent) : (mv n slot es).1 = ticksN es := by
  have h : ∀ (l : List Ent) (s : Nat × List (Bool × ByteArray)), (l.foldl (mvStep n slot) s).1 = s.1 + ticksN l := by
    intro l
    induction l with
    | nil => intro s; simp [ticksN]
    | cons e t ih =>
      intro s
      rw [List.foldl_cons, ih]
      unfold ticksN mvStep
      by_cases h : tickB e = true <;> simp [h] <;> omega
  have := h es (0, [])
  simpa [mv] using this
theorem ScrAt.take {W : World} {a : Option Addr} {n : Nat} {es : List Ent} (h : ScrAt W a n es) {k : Nat} (hk : k ≤ n) : ScrAt W a k (es.take k) :=
  ⟨by rw [List.length_take, h.1]; omega, fun i u hu => h.2 i u (by
    rw [List.getElem?_take] at hu
    split at hu
    · exact hu
    · cases hu)⟩
set_option maxHeartbeats 4000000 in
theorem MovesR_any (n slot : Int) (hn1 : 1 ≤ n) (hn8 : n ≤ 8) (a : Option Addr) (m c : Nat) (es : List Ent) (W : World) (h : ScrAt W a m es) (hm : m ≤ 4000) (hc : m ≤ c) (D : World → Prop) (hD : DatOf D W a es) :
    Calls Tryz.prog 53 #[.slice a m c, .int .i64 n, .int .i64 slot] W fun e w' => ∃ v l, e = .returned v ∧ l.map Prod.fst = (mv n slot es).2 ∧ LRow movSh D w' W.heap.size v l ∧ Below W.heap.size W w' := by
  obtain ⟨i1, ji, jz0, jz1, jz2⟩ := info_parts infoRefMov
  have H := Lib.hid h
  have HDA := Lib.hid hD
  clear hD
  have HL := Lib.hid h.1
  have hnI : (m : Int) ≤ 4000 := by omega
  have hn0 : (n == 0) = false := by simp; omega
  clear h
  generalize hX : W.heap.size = X at *
  have HX := Lib.hid hX
  clear hX
  go_enter Tryz.func53, Tryz.ntmps53
  go_wp2_with fail
  go_loopw [7, 8] (fun d i wr => ∃ (k : Nat) (l : List ((Bool × ByteArray) × Value)) (da : Option Addr) (dc : Nat), k ≤ m ∧ l.length ≤ k ∧ i = .int .i64 k ∧ d = .slice da l.length dc ∧ Hid (l.map Prod.fst = (mv n slot (es.take k)).2) ∧ Hid (LRow movSh D wr X (.slice da l.length dc) l) ∧ Hid (Below X W wr)) (fun _ i _ => m - (intOf i).toNat)
  case atStart => exact ⟨0, [], none, 0, Nat.zero_le _, Nat.zero_le _, rfl, rfl, by simp [Hid, mv], LRow.nil _ _ _ _, Below.refl _ _⟩
  case round =>
    obtain ⟨k, l, da, dc, hk, hlk, rfl, rfl, HF, HR, HB⟩ := hrel
    by_cases hlt : k < m
    · have hltI : (k : Int) < m := by omega
      have hk2 : k < es.length := by have := HL.out; omega
      have hXw : X ≤ wr.heap.size := by have := HB.out.size; have := HX.out; omega
      have HBW : Hid (Below W.heap.size W wr) := by rw [HX.out]; exact HB.out
      have HS := Lib.hid (H.out.below HBW.out)
      obtain ⟨b, o, v, sa, sc, rfl, hbl, c0, c1, c2, c3, hst, rfl⟩ := HS.out.at_ hk2
      have HFT := Lib.hid (mv_take (n := n) (slot := slot) hk2)
      have HTK := Lib.hid (mv_fst n slot (es.take k))
      have htl : ticksN (es.take k) ≤ k := Nat.le_trans (List.length_filter_le _ _) (List.length_take_le _ _)
      have HLOW : Hid (∀ W', D W' → StrAt W' (.slice sa es[k].bytes.size sc) es[k].bytes) := by
        obtain ⟨b', o', v', sa', sc', e1, g1, g2, g3, g4, g5, g6, rfl⟩ := H.out.at_ hk2
        cases e1
        have h5 := HBW.out.cell (p := ⟨b, o + k * 4 + 3, none⟩) g1
        rw [g5, c3] at h5
        cases h5
        exact HDA.out k _ b o _ rfl (List.getElem?_eq_getElem hk2) g5
      generalize es[k] = z at *
      clear hk2 hbl hst
      have hw1 : IntKind.i64.wrap ((k : Int) + 1) = (k : Int) + 1 := by rw [IntKind.wrap_i64]; omega
      by_cases hz : ownB slot z = true
      · have hzk : z.kind = 1 := by simp [ownB] at hz; exact hz.1
        have HA : Hid ((mv n slot (es.take (k + 1))).2 = (mv n slot (es.take k)).2 ++ [(false, z.bytes)]) := by rw [Hid, HFT.out]; simp [mvStep, hz]
        have HZK := Lib.hid hzk
        clear HFT HTK HBW HS hzk
        go_wp2_with fail
        refine (ownR_any z _ ⟨_, _, _, rfl⟩ slot _).mono ?_; rintro e W2 ⟨rfl, hb2⟩
        rw [hz]
        have HRb := Lib.hid (HR.out.below hb2)
        have HB2 := Lib.hid (HB.out.trans (hb2.mono hXw))
        have hX2 : X ≤ W2.heap.size := Nat.le_trans hXw hb2.size
        have c0' := (hb2.cell (p := ⟨b, o + k * 4, none⟩) (World.block_lt_of_cell? wr _ c0)).trans c0
        have c3' := (hb2.cell (p := ⟨b, o + k * 4 + 3, none⟩) (World.block_lt_of_cell? wr _ c3)).trans c3
        rw [HZK.out] at c0'
        have hblk : Hid (b < wr.heap.size ∧ b < X) := ⟨World.block_lt_of_cell? wr _ c0, by
          obtain ⟨b', o', v', sa', sc', e1, g1, -⟩ := H.out.at_ (i := k) (by have := HL.out; omega)
          cases e1
          rw [HX.out] at g1
          exact g1⟩
        have HLOW2 := HLOW
        clear hb2 c0 c1 c2 c3 HR HB HLOW hz
        generalize hll : l.length = ll at *
        have HLL := Lib.hid hll
        clear hll
        go_wp2_with (at_builtin; refine wpList_append_own _ rfl _ _ 105 rfl X 162 i1 (.agg #[.bool false, .slice none 0 0]) 2 32 Tryz.underlying105 ji jz0 jz1 jz2 rfl (by decide) _ ll _ rfl (by have := HRb.out.1; rw [HLL.out] at this; exact this.alloc _) ⟨W2.heap.size, 0, none⟩ 1 1 [.bool false, .slice sa z.bytes.size sc] rfl rfl (news_k_ (World.alloc_heap_new W2 (.cells #[.bool false, .slice sa z.bytes.size sc] 162))) (by simp [Value.oneCell']) (by unfold maxLen; omega) (by omega) (by simp; omega) ?_; intro v' w5 hown' hgrow hat; obtain ⟨a', c', e⟩ := ownsRow_form hown'; subst e; have HOWN := Lib.hid hown'; have HG := Lib.hid hgrow; have hbw5 : Below X W2 w5 := grown_below_ HRb.out.1 hgrow hX2; have c0'' := (hbw5.cell (p := ⟨b, o + k * 4, none⟩) hblk.out.2).trans c0'; have HBW5 := Lib.hid hbw5; clear hbw5 hown' hgrow hat)
        have HR5 : Hid (LRow movSh D w5 X (.slice a' (ll + 1) c') (l ++ [((false, z.bytes), .slice sa z.bytes.size sc)])) := HRb.out.push HLOW2.out (by rw [HLL.out]; exact HOWN.out)
        have HB5 := Lib.hid (HB2.out.trans HBW5.out)
        have hlen : (l ++ [((false, z.bytes), Value.slice sa z.bytes.size sc)]).length = ll + 1 := by simp [HLL.out]
        refine ⟨⟨k + 1, l ++ [((false, z.bytes), .slice sa z.bytes.size sc)], a', c', by omega, by omega, by simp, by rw [hlen], ?_, by rw [hlen]; exact HR5.out, HB5.out⟩, by simp [intOf]; omega⟩
        rw [Hid, HA.out, List.map_append, HF.out]
        rfl
      · have hz' : ownB slot z = false := by simpa using hz
        by_cases hz2 : z.kind = 2
        · have HA : Hid ((mv n slot (es.take (k + 1))).2 = if (ticksN (es.take k) : Int) % n = slot then (mv n slot (es.take k)).2 ++ [(true, ByteArray.empty)] else (mv n slot (es.take k)).2) := by
            rw [Hid, HFT.out]; simp [mvStep, hz', tickB, hz2, HTK.out]
          have HTS : Hid (∀ W', Below X W W' → ScrAt W' (some ⟨b, o, none⟩) k (es.take k)) := fun W' hW' => (H.out.below (by rw [HX.out]; exact hW')).take (by omega)
          have hkc : k ≤ c := by omega
          have hkcI : (k : Int) ≤ c := by omega
          have HZ2 := Lib.hid hz2
          clear HFT HTK HBW HS hz2
          go_wp2_with fail
          refine (ownR_any z _ ⟨_, _, _, rfl⟩ slot _).mono ?_; rintro e W2 ⟨rfl, hb2⟩
          rw [hz']
          have HRb := Lib.hid (HR.out.below hb2)
          have HB2 := Lib.hid (HB.out.trans (hb2.mono hXw))
          have hX2 : X ≤ W2.heap.size := Nat.le_trans hXw hb2.size
          have c0' := (hb2.cell (p := ⟨b, o + k * 4, none⟩) (World.block_lt_of_cell? wr _ c0)).trans c0
          rw [HZ2.out] at c0'
          clear hb2 c0 c1 c2 c3 HR HB HLOW hz hz'
          generalize hll : l.length = ll at *
          have HLL := Lib.hid hll
          clear hll
          have HTC := Lib.hid (ticksR_any (some ⟨b, o, none⟩) k c (es.take k) W2 (HTS.out _ HB2.out) (by unfold maxLen; omega))
          generalize ticksN (es.take k) = t at *
          have ht0 : (0 : Int) ≤ t := by omega
          by_cases hq : (t : Int) % n = slot
          · have hq' : ((t : Int) % n == slot) = true := by simpa using hq
            rw [if_pos hq] at HA
            clear hq
            go_wp2_with fail
            refine HTC.out.mono ?_; rintro e W3 ⟨rfl, hW3⟩
            rw [hW3]
            clear hW3
            go_wp2_with (at_builtin; refine wpList_append_own _ rfl _ _ 105 rfl X 162 i1 (.agg #[.bool false, .slice none 0 0]) 2 32 Tryz.underlying105 ji jz0 jz1 jz2 rfl (by decide) _ ll _ rfl (by have := HRb.out.1; rw [HLL.out] at this; exact this.alloc _) ⟨W2.heap.size, 0, none⟩ 1 1 [.bool true, .slice none 0 0] rfl rfl (news_k_ (World.alloc_heap_new W2 (.cells #[.bool true, .slice none 0 0] 162))) (by simp [Value.oneCell']) (by unfold maxLen; omega) (by omega) (by simp; omega) ?_; intro v' w5 hown' hgrow hat; obtain ⟨a', c', e⟩ := ownsRow_form hown'; subst e; have HOWN := Lib.hid hown'; have HG := Lib.hid hgrow; clear hown' hgrow hat)
            have hbw5 : Below X W2 w5 := grown_below_ HRb.out.1 HG.out hX2
            have HR5 : Hid (LRow movSh D w5 X (.slice a' (ll + 1) c') (l ++ [((true, ByteArray.empty), .slice none 0 0)])) := HRb.out.push (fun W' _ => StrAt.nil _) (by rw [HLL.out]; exact HOWN.out)
            have HB5 := Lib.hid (HB2.out.trans hbw5)
            have hlen : (l ++ [((true, ByteArray.empty), Value.slice none 0 0)]).length = ll + 1 := by simp [HLL.out]
            refine ⟨⟨k + 1, l ++ [((true, ByteArray.empty), .slice none 0 0)], a', c', by omega, by omega, by simp, by rw [hlen], ?_, by rw [hlen]; exact HR5.out, HB5.out⟩, by simp [intOf]; omega⟩
            rw [Hid, HA.out, List.map_append, HF.out]
            rfl
          · have hq' : ((t : Int) % n == slot) = false := by simpa using hq
            rw [if_neg hq] at HA
            clear hq
            go_wp2_with fail
            refine HTC.out.mono ?_; rintro e W3 ⟨rfl, hW3⟩
            rw [hW3]
            clear hW3
            go_wp2_with fail
            exact ⟨⟨k + 1, l, da, dc, by omega, by have := HLL.out; omega, by simp, by rw [HLL.out], by rw [HA.out]; exact HF.out, by rw [HLL.out]; exact HRb.out, HB2.out⟩, by simp [intOf]; omega⟩
        · have hz2' : (z.kind == 2) = false := by simpa using hz2
          have HA : Hid ((mv n slot (es.take (k + 1))).2 = (mv n slot (es.take k)).2) := by rw [Hid, HFT.out]; simp [mvStep, hz', tickB, hz2]
          clear HFT HTK HBW HS hz2
          go_wp2_with fail
          refine (ownR_any z _ ⟨_, _, _, rfl⟩ slot _).mono ?_; rintro e W2 ⟨rfl, hb2⟩
          rw [hz']
          have HRb := Lib.hid (HR.out.below hb2)
          have HB2 := Lib.hid (HB.out.trans (hb2.mono hXw))
          have c0' := (hb2.cell (p := ⟨b, o + k * 4, none⟩) (World.block_lt_of_cell? wr _ c0)).trans c0
          clear hb2 c0 c1 c2 c3 HR HB HLOW hz hz'
          go_wp2_with fail
          exact ⟨⟨k + 1, l, da, dc, by omega, by omega, by simp, rfl, by rw [HA.out]; exact HF.out, HRb.out, HB2.out⟩, by simp [intOf]; omega⟩
    · obtain rfl : k = m := by omega
      have HT : Hid (es.take k = es) := List.take_of_length_le (by have := HL.out; omega)
      rw [HT.out] at HF
      go_wp2_with fail
      go_ret
      exact ⟨_, l, rfl, HF.out, HR.out, HB.out⟩
end View
end Go.Proofs.YtdfmgneicdpjmaaGreat
