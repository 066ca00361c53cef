import Derived.Test.YtdfmgneicdpjmaaGreatM21
namespace Go.Proofs.YtdfmgneicdpjmaaGreat
open Go.RowKit Go.Shelf
attribute [local go_sem] Oper.semAt_some
set_option linter.unusedVariables false
set_option linter.unusedSimpArgs false
set_option maxRecDepth 100000
namespace View
open Resp
theorem Collect_any (a : Option Addr) (n c : Nat) (iv : Value) (es : List Ent) (p : Ent → Bool) (bl bi : Nat) (hb : ∀ e ∈ es, e.bytes.size ≤ 140737488351232) (hn : n ≤ maxLen) (W : World) (hI : IsAt iv p (Below W.heap.size W))
   (hst : W.heap[bl]? = some (.cells #[.slice a n c] 27) ∧ W.heap[bi]? = some (.cells #[iv] 117)) (hscr : ScrAt W a n es) (hlen : es.length ≤ 100000) :
   Calls Tryz.prog 62 #[.func (.func 101) #[] #[.pointer (some ⟨bl, 0, none⟩), .pointer (some ⟨bi, 0, none⟩)]] W fun e w' => ∃ v, e = .returned v ∧ OwnScr w' W.heap.size v (es.filter p) ∧ Below W.heap.size W w' := by
 have HC := Lib.hid (AppendSeq_any (.slice none 0 0) [] W.heap.size a n c iv es p bl bi hb hn W hI (OwnScr.nil _ _) (Nat.le_refl _) hst (fun w' hw => hscr.below hw) (by simpa using hlen))
 clear hb hI hst hscr
 go_enter Tryz.func62, Tryz.ntmps62
 go_wp2_with fail
 refine HC.out.mono ?_; rintro e w' ⟨v, rfl, ho, hm⟩
 have HO := Lib.hid ho
 have HM := Lib.hid (hm.below (Nat.le_refl _) (fun k hk h => by omega))
 clear ho hm
 go_wp2_with fail
 go_ret
 exact ⟨v, rfl, by simpa using HO.out, HM.out⟩
def aloneP (slot : Int) (e : Ent) : Bool := e.kind == 2 || ownB slot e
def othersP (slot : Int) (e : Ent) : Bool := !(e.kind == 2) && !(ownB slot e)
theorem alone1_any (slot : Int) (bo bs : Nat) (e : Ent) (v : Value) (W : World) (hv : StrAt W v e.bytes) (ho : W.cell? ⟨bo, 0, none⟩ = some (.func (.func 100) #[] #[.pointer (some ⟨bs, 0, none⟩)])) (hb : W.cell? ⟨bs, 0, none⟩ = some (.int .i64 slot)) :
   Calls Tryz.prog 64 #[.agg #[.int .u8 e.kind, .int .i64 e.slot, .int .i64 e.n, v], .pointer (some ⟨bo, 0, none⟩)] W fun r w' => r = .returned (.bool (aloneP slot e)) ∧ Below W.heap.size W w' := by
 obtain ⟨a, c, rfl⟩ := hv.form
 have hbz : Below W.heap.size W (W.alloc (.cells #[.int .u8 e.kind, .int .i64 e.slot, .int .i64 e.n, .slice a e.bytes.size c] 38)) := (Below.refl _ _).alloc (Nat.le_refl _) _
 have hbl := World.block_lt_of_cell? W _ hb
 have hol := World.block_lt_of_cell? W _ ho
 have c1 := hbz.cell (p := ⟨bs, 0, none⟩) hbl
 rw [hb] at c1
 have c2 := hbz.cell (p := ⟨bo, 0, none⟩) hol
 rw [ho] at c2
 have HB := Lib.hid hbz
 have HV := Lib.hid (StrAt.below hv hbz)
 have HC1 := Lib.hid c1
 clear hv hbz hbl hb ho hol c1
 by_cases hk : e.kind = 2
 · have HE : Hid (aloneP slot e = true) := by simp [Hid, aloneP, hk]
   rw [hk] at c2 HB HV HC1 ⊢
   clear hk
   go_enter Tryz.func64, Tryz.ntmps64
   go_wp2_with fail
   go_ret
   exact ⟨by rw [HE.out]; rfl, HB.out⟩
 · have hk' : (e.kind == 2) = false := by simpa using hk
   have HE : Hid (aloneP slot e = ownB slot e) := by simp [Hid, aloneP, hk']
   clear hk
   go_enter Tryz.func64, Tryz.ntmps64
   go_wp2_with fail
   refine (of1_any slot bs e _ _ HV.out HC1.out).mono ?_; rintro r w' ⟨rfl, hb2⟩
   have HB2 := Lib.hid (below_step_ HB.out hb2)
   clear hb2
   go_wp2_with fail
   go_ret
   exact ⟨by rw [HE.out]; rfl, HB2.out⟩
theorem moves1_any (slot : Int) (bo bs : Nat) (e : Ent) (v : Value) (W : World) (hv : StrAt W v e.bytes) (ho : W.cell? ⟨bo, 0, none⟩ = some (.func (.func 100) #[] #[.pointer (some ⟨bs, 0, none⟩)])) (hb : W.cell? ⟨bs, 0, none⟩ = some (.int .i64 slot)) :
   Calls Tryz.prog 77 #[.agg #[.int .u8 e.kind, .int .i64 e.slot, .int .i64 e.n, v], .pointer (some ⟨bo, 0, none⟩)] W fun r w' => r = .returned (.bool (aloneP slot e)) ∧ Below W.heap.size W w' := by
 obtain ⟨a, c, rfl⟩ := hv.form
 have hbz : Below W.heap.size W (W.alloc (.cells #[.int .u8 e.kind, .int .i64 e.slot, .int .i64 e.n, .slice a e.bytes.size c] 38)) := (Below.refl _ _).alloc (Nat.le_refl _) _
 have hbl := World.block_lt_of_cell? W _ hb
 have hol := World.block_lt_of_cell? W _ ho
 have c1 := hbz.cell (p := ⟨bs, 0, none⟩) hbl
 rw [hb] at c1
 have c2 := hbz.cell (p := ⟨bo, 0, none⟩) hol
 rw [ho] at c2
 have HB := Lib.hid hbz
 have HV := Lib.hid (StrAt.below hv hbz)
 have HC1 := Lib.hid c1
 clear hv hbz hbl hb ho hol c1
 by_cases hk : e.kind = 2
 · have HE : Hid (aloneP slot e = true) := by simp [Hid, aloneP, hk]
   rw [hk] at c2 HB HV HC1 ⊢
   clear hk
   go_enter Tryz.func77, Tryz.ntmps77
   go_wp2_with fail
   go_ret
   exact ⟨by rw [HE.out]; rfl, HB.out⟩
 · have hk' : (e.kind == 2) = false := by simpa using hk
   have HE : Hid (aloneP slot e = ownB slot e) := by simp [Hid, aloneP, hk']
   clear hk
   go_enter Tryz.func77, Tryz.ntmps77
   go_wp2_with fail
   refine (of1_any slot bs e _ _ HV.out HC1.out).mono ?_; rintro r w' ⟨rfl, hb2⟩
   have HB2 := Lib.hid (below_step_ HB.out hb2)
   clear hb2
   go_wp2_with fail
   go_ret
   exact ⟨by rw [HE.out]; rfl, HB2.out⟩
theorem others1_any (slot : Int) (bo bs : Nat) (e : Ent) (v : Value) (W : World) (hv : StrAt W v e.bytes) (ho : W.cell? ⟨bo, 0, none⟩ = some (.func (.func 100) #[] #[.pointer (some ⟨bs, 0, none⟩)])) (hb : W.cell? ⟨bs, 0, none⟩ = some (.int .i64 slot)) :
   Calls Tryz.prog 65 #[.agg #[.int .u8 e.kind, .int .i64 e.slot, .int .i64 e.n, v], .pointer (some ⟨bo, 0, none⟩)] W fun r w' => r = .returned (.bool (othersP slot e)) ∧ Below W.heap.size W w' := by
 obtain ⟨a, c, rfl⟩ := hv.form
 have hbz : Below W.heap.size W (W.alloc (.cells #[.int .u8 e.kind, .int .i64 e.slot, .int .i64 e.n, .slice a e.bytes.size c] 38)) := (Below.refl _ _).alloc (Nat.le_refl _) _
 have hbl := World.block_lt_of_cell? W _ hb
 have hol := World.block_lt_of_cell? W _ ho
 have c1 := hbz.cell (p := ⟨bs, 0, none⟩) hbl
 rw [hb] at c1
 have c2 := hbz.cell (p := ⟨bo, 0, none⟩) hol
 rw [ho] at c2
 have HB := Lib.hid hbz
 have HV := Lib.hid (StrAt.below hv hbz)
 have HC1 := Lib.hid c1
 clear hv hbz hbl hb ho hol c1
 by_cases hk : e.kind = 2
 · have HE : Hid (othersP slot e = false) := by simp [Hid, othersP, hk]
   rw [hk] at c2 HB HV HC1 ⊢
   clear hk
   go_enter Tryz.func65, Tryz.ntmps65
   go_wp2_with fail
   go_ret
   exact ⟨by rw [HE.out]; rfl, HB.out⟩
 · have hk' : (e.kind != 2) = true := by simpa using hk
   have HE : Hid (othersP slot e = !(ownB slot e)) := by simp [Hid, othersP, hk]
   clear hk
   go_enter Tryz.func65, Tryz.ntmps65
   go_wp2_with fail
   refine (of1_any slot bs e _ _ HV.out HC1.out).mono ?_; rintro r w' ⟨rfl, hb2⟩
   have HB2 := Lib.hid (below_step_ HB.out hb2)
   clear hb2
   go_wp2_with fail
   go_ret
   exact ⟨by rw [HE.out]; rfl, HB2.out⟩
theorem is_alone (slot : Int) (bo bs base : Nat) (W : World) (ho : W.cell? ⟨bo, 0, none⟩ = some (.func (.func 100) #[] #[.pointer (some ⟨bs, 0, none⟩)])) (hb : W.cell? ⟨bs, 0, none⟩ = some (.int .i64 slot)) (h1 : bo < base) (h2 : bs < base) :
   IsAt (.func (.func 64) #[] #[.pointer (some ⟨bo, 0, none⟩)]) (aloneP slot) (Below base W) :=
 ⟨_, _, rfl, enters_of Tryz.func64 (by kernel_rfl) rfl, fun e v A hA hv => alone1_any slot bo bs e v A hv ((hA.cell (p := ⟨bo, 0, none⟩) h1).trans ho) ((hA.cell (p := ⟨bs, 0, none⟩) h2).trans hb)⟩
theorem is_others (slot : Int) (bo bs base : Nat) (W : World) (ho : W.cell? ⟨bo, 0, none⟩ = some (.func (.func 100) #[] #[.pointer (some ⟨bs, 0, none⟩)])) (hb : W.cell? ⟨bs, 0, none⟩ = some (.int .i64 slot)) (h1 : bo < base) (h2 : bs < base) :
   IsAt (.func (.func 65) #[] #[.pointer (some ⟨bo, 0, none⟩)]) (othersP slot) (Below base W) :=
 ⟨_, _, rfl, enters_of Tryz.func65 (by kernel_rfl) rfl, fun e v A hA hv => others1_any slot bo bs e v A hv ((hA.cell (p := ⟨bo, 0, none⟩) h1).trans ho) ((hA.cell (p := ⟨bs, 0, none⟩) h2).trans hb)⟩
theorem is_all (base : Nat) (W : World) : IsAt (.func (.func 67) #[] #[]) (fun _ => true) (Below base W) :=
 ⟨_, _, rfl, enters_of Tryz.func67 (by kernel_rfl) rfl, fun e v A hA hv => by
   obtain ⟨a, c, rfl⟩ := hv.form
   have hbz : Below A.heap.size A (A.alloc (.cells #[.int .u8 e.kind, .int .i64 e.slot, .int .i64 e.n, .slice a e.bytes.size c] 38)) := (Below.refl _ _).alloc (Nat.le_refl _) _
   have HB := Lib.hid hbz
   clear hbz hv hA
   show Calls Tryz.prog 67 #[.agg #[.int .u8 e.kind, .int .i64 e.slot, .int .i64 e.n, .slice a e.bytes.size c]] A _
   go_enter Tryz.func67, Tryz.ntmps67
   go_wp2_with fail
   go_ret
   exact ⟨rfl, HB.out⟩⟩
end View
end Go.Proofs.YtdfmgneicdpjmaaGreat

namespace Go.Proofs.YtdfmgneicdpjmaaGreat
open Go.RowKit Go.Shelf
attribute [local go_sem] Oper.semAt_some
set_option linter.unusedVariables false
set_option linter.unusedSimpArgs false
set_option maxRecDepth 100000
namespace View
open Resp
def wrg1 (slot : Int) (es : List Ent) : Int := if chkE es = 0 then (if slot < 0 ∨ 4294967295 < slot then 2 else 0) else chkE es
def wrg2 (slot : Int) (es fs : List Ent) : Int := if chkE es = 0 then wrg1 slot fs else chkE es
theorem wrongE_one (slot : Int) (x : Scr) : wrongE slot [x] = wrg1 slot x.es := by
 unfold wrongE wrg1 firstE firstE
 by_cases h : chkE x.es = 0 <;> simp [h]
theorem wrongE_two (slot : Int) (x y : Scr) : wrongE slot [x, y] = wrg2 slot x.es y.es := by
 unfold wrongE wrg2 wrg1 firstE firstE firstE
 by_cases h : chkE x.es = 0 <;> by_cases h2 : chkE y.es = 0 <;> simp [h, h2]
theorem chk_ok {es : List Ent} (h : chkE es = 0) : es.length ≤ 4000 ∧ ∀ e ∈ es, cleanB e = true := by
 unfold chkE at h
 split at h
 · cases h
 · rename_i hl
   refine ⟨by omega, fun e he => ?_⟩
   split at h
   · cases h
   · rename_i hb
     have h2 : badAt es = es.length := by have := badAt_le es; omega
     have h3 := List.findIdx_eq_length.1 h2 e he
     simpa using h3
theorem wrg1_ok {slot : Int} {es : List Ent} (h : wrg1 slot es = 0) : chkE es = 0 ∧ 0 ≤ slot ∧ slot ≤ 4294967295 := by
 unfold wrg1 at h
 split at h
 · rename_i h1
   refine ⟨h1, ?_⟩
   split at h
   · cases h
   · omega
 · rename_i h1; exact absurd h h1
theorem clean_size {e : Ent} (h : cleanB e = true) : e.bytes.size ≤ 16384 := by
 unfold cleanB at h
 split at h
 · simp at h; omega
 · split at h
   · simp [sameB] at h
     rw [h.2]; decide
   · split at h
     · simp [sameB] at h
       rw [h.2.2]; decide
     · cases h
theorem of_any2 (slot : Int) (w : World) : Calls Tryz.prog 61 #[.int .i64 slot] w fun e w' => e = .returned (.func (.func 100) #[] #[.pointer (some ⟨w.heap.size, 0, none⟩)]) ∧ w'.heap[w.heap.size]? = some (.cells #[.int .i64 slot] 3) ∧ Below w.heap.size w w' :=
 (of_any slot w).mono fun e w' ⟨he, hw⟩ => by
   subst hw
   exact ⟨he, World.alloc_heap_new _ _, (Below.refl _ _).alloc (Nat.le_refl _) _⟩
theorem chosen_any2 (lv iv : Value) (hl : ∃ a n c, lv = .slice a n c) (hi : ∃ f cs, iv = .func (.func f) #[] cs) (w : World) :
   Calls Tryz.prog 63 #[lv, iv] w fun e w' => e = .returned (.func (.func 101) #[] #[.pointer (some ⟨w.heap.size, 0, none⟩), .pointer (some ⟨w.heap.size + 1, 0, none⟩)]) ∧ (w'.heap[w.heap.size]? = some (.cells #[lv] 27) ∧ w'.heap[w.heap.size + 1]? = some (.cells #[iv] 117)) ∧ Below w.heap.size w w' :=
 (chosen_any lv iv hl hi w).mono fun e w' ⟨he, hw⟩ => by
   have h1 := (Below.heap_alloc (w.alloc (.cells #[lv] 27)) (.cells #[iv] 117) w.heap.size (by simp)).trans (World.alloc_heap_new w (.cells #[lv] 27))
   have h2 := World.alloc_heap_new (w.alloc (.cells #[lv] 27)) (.cells #[iv] 117)
   rw [World.size_alloc] at h2
   have h3 : Below w.heap.size w ((w.alloc (.cells #[lv] 27)).alloc (.cells #[iv] 117)) := ((Below.refl _ _).alloc (Nat.le_refl _) _).alloc (by simp) _
   rw [← hw] at h1 h2 h3
   exact ⟨he, ⟨h1, h2⟩, h3⟩
theorem wrong_one (slot : Int) (a : Option Addr) (n c : Nat) (es : List Ent) (W : World) (h : ScrAt W a n es) (hn : n ≤ maxLen) (T : TypeId) :
   Calls Tryz.prog 60 #[.int .i64 slot, .slice (some ⟨W.heap.size, 0, none⟩) 1 1] (W.alloc (.cells #[.slice a n c] T)) fun e w' => e = .returned (.int .i64 (wrg1 slot es)) ∧ Below W.heap.size W w' := by
 have hb : Below W.heap.size W (W.alloc (.cells #[.slice a n c] T)) := (Below.refl _ _).alloc (Nat.le_refl _) _
 refine (wrong_any slot W.heap.size 1 1 [⟨a, n, c, es⟩] rfl (by omega) _ ?_).mono fun e w' ⟨he, hw⟩ => ⟨by rw [he, wrongE_one], below_step_ hb hw⟩
 intro i x hx
 rcases i with _ | i
 · simp at hx
   subst hx
   exact ⟨cell_of_heap_ (World.alloc_heap_new _ _), h.below hb, hn⟩
 · simp at hx
theorem wrong_two (slot : Int) (a : Option Addr) (n c : Nat) (es : List Ent) (b : Option Addr) (m d : Nat) (fs : List Ent) (W : World) (h : ScrAt W a n es) (hn : n ≤ maxLen) (h2 : ScrAt W b m fs) (hm : m ≤ maxLen) (T : TypeId) :
   Calls Tryz.prog 60 #[.int .i64 slot, .slice (some ⟨W.heap.size, 0, none⟩) 2 2] (W.alloc (.cells #[.slice a n c, .slice b m d] T)) fun e w' => e = .returned (.int .i64 (wrg2 slot es fs)) ∧ Below W.heap.size W w' := by
 have hb : Below W.heap.size W (W.alloc (.cells #[.slice a n c, .slice b m d] T)) := (Below.refl _ _).alloc (Nat.le_refl _) _
 refine (wrong_any slot W.heap.size 2 2 [⟨a, n, c, es⟩, ⟨b, m, d, fs⟩] rfl (by omega) _ ?_).mono fun e w' ⟨he, hw⟩ => ⟨by rw [he, wrongE_two], below_step_ hb hw⟩
 intro i x hx
 obtain ⟨z0, z1, -, -⟩ := pair_cells_ (World.alloc_heap_new W (.cells #[.slice a n c, .slice b m d] T))
 rcases i with _ | _ | i
 · simp at hx
   subst hx
   exact ⟨z0, h.below hb, hn⟩
 · simp at hx
   subst hx
   exact ⟨z1, h2.below hb, hm⟩
 · simp at hx
set_option maxHeartbeats 1000000 in
theorem Alone_no (slot : Int) (a : Option Addr) (n c : Nat) (es : List Ent) (W : World) (h : ScrAt W a n es) (hn : n ≤ maxLen) (E : Int) (hE : wrg1 slot es = E) (h0 : ¬ E = 0) :
   Calls Tryz.prog 20 #[.slice a n c, .int .i64 slot] W fun e w' => e = .returned (.tuple #[.slice none 0 0, .int .i64 E]) ∧ Below W.heap.size W w' := by
 have HC := Lib.hid (wrong_one slot a n c es W h hn 27)
 have h0' : (E != 0) = true := by simpa using h0
 rw [hE] at HC
 clear h hE h0
 go_enter Tryz.func20, Tryz.ntmps20
 go_wp2_with fail
 refine HC.out.mono ?_; rintro e W2 ⟨rfl, hb2⟩
 have HB2 := Lib.hid hb2
 clear hb2
 go_wp2_with fail
 go_ret2
 exact ⟨rfl, HB2.out⟩
set_option maxHeartbeats 1000000 in
theorem Alone_yes (slot : Int) (a : Option Addr) (n c : Nat) (es : List Ent) (W : World) (h : ScrAt W a n es) (hn : n ≤ maxLen) (hE : wrg1 slot es = 0) :
   Calls Tryz.prog 20 #[.slice a n c, .int .i64 slot] W fun e w' => ∃ v, e = .returned (.tuple #[v, .int .i64 0]) ∧ OwnScr w' W.heap.size v (es.filter (aloneP slot)) ∧ Below W.heap.size W w' := by
 have HC := Lib.hid (wrong_one slot a n c es W h hn 27)
 have HOK := Lib.hid (chk_ok (wrg1_ok hE).1)
 have HS := Lib.hid h
 rw [hE] at HC
 clear h hE
 go_enter Tryz.func20, Tryz.ntmps20
 go_wp2_with fail
 refine HC.out.mono ?_; rintro e W2 ⟨rfl, hb2⟩
 have HB2 := Lib.hid hb2
 clear hb2 HC
 go_wp2_with fail
 refine (of_any2 slot W2).mono ?_; rintro e W3 ⟨rfl, hs3, hb3⟩
 have HB3 := Lib.hid (below_step_ HB2.out hb3)
 have HS3 := Lib.hid hs3
 clear hs3 hb3 HB2
 generalize W2.heap.size = bs at *
 go_upto_region 5 with fail
 have hs4 := World.alloc_heap_new W3 (.cells #[.func (.func 100) #[] #[.pointer (some ⟨bs, 0, none⟩)]] 117)
 have hm4 : Mod (fun _ => False) W3 (W3.alloc (.cells #[.func (.func 100) #[] #[.pointer (some ⟨bs, 0, none⟩)]] 117)) := (Mod.refl _ _).alloc _
 generalize W3.alloc (.cells #[.func (.func 100) #[] #[.pointer (some ⟨bs, 0, none⟩)]] 117) = W4 at *
 have HB4 : Hid (Below W.heap.size W W4) := HB3.out.trans (hm4.below HB3.out.size (by simp))
 have HO4 := Lib.hid (cell_of_heap_ hs4)
 have HS4 := Lib.hid (cell_of_heap_ (hm4.heap HS3.out (by simp)))
 clear hs4 hm4 HS3 HB3
 generalize W3.heap.size = bo at *
 go_wp2_with fail
 refine (chosen_any2 _ _ ⟨a, n, c, rfl⟩ ⟨_, _, rfl⟩ W4).mono ?_; rintro e W5 ⟨rfl, h5, hb5⟩
 have HB5 := Lib.hid (below_step_ HB4.out hb5)
 have HM5 : Hid (Mod (fun _ => False) W4 W5) := Mod.of_same hb5
 have HO5 := Lib.hid (HM5.out.cell (by simp) HO4.out)
 have HS5 := Lib.hid (HM5.out.cell (by simp) HS4.out)
 have H5 := Lib.hid h5
 clear h5 hb5 HM5 HO4 HS4 HB4
 generalize W4.heap.size = bl at *
 go_wp2_with fail
 refine (Collect_any a n c _ es (aloneP slot) bl (bl + 1) (fun e he => Nat.le_trans (clean_size (HOK.out.2 e he)) (by omega)) hn W5 (is_alone slot bo bs W5.heap.size W5 HO5.out HS5.out (World.block_lt_of_cell? W5 _ HO5.out) (World.block_lt_of_cell? W5 _ HS5.out)) H5.out (HS.out.below HB5.out) (by have := HOK.out.1; omega)).mono ?_; rintro e W6 ⟨v, rfl, ho, hb6⟩
 obtain ⟨va, vc, rfl⟩ := ho.form
 have HO6 := Lib.hid (ho.base HB5.out.size)
 have HB6 := Lib.hid (below_step_ HB5.out hb6)
 clear ho hb6
 go_wp2_with fail
 go_ret2
 exact ⟨_, rfl, HO6.out, HB6.out⟩
set_option maxHeartbeats 1000000 in
theorem Others_no (slot : Int) (a : Option Addr) (n c : Nat) (es : List Ent) (W : World) (h : ScrAt W a n es) (hn : n ≤ maxLen) (E : Int) (hE : wrg1 slot es = E) (h0 : ¬ E = 0) :
   Calls Tryz.prog 21 #[.slice a n c, .int .i64 slot] W fun e w' => e = .returned (.tuple #[.slice none 0 0, .int .i64 E]) ∧ Below W.heap.size W w' := by
 have HC := Lib.hid (wrong_one slot a n c es W h hn 27)
 have h0' : (E != 0) = true := by simpa using h0
 rw [hE] at HC
 clear h hE h0
 go_enter Tryz.func21, Tryz.ntmps21
 go_wp2_with fail
 refine HC.out.mono ?_; rintro e W2 ⟨rfl, hb2⟩
 have HB2 := Lib.hid hb2
 clear hb2
 go_wp2_with fail
 go_ret2
 exact ⟨rfl, HB2.out⟩
set_option maxHeartbeats 1000000 in
theorem Others_yes (slot : Int) (a : Option Addr) (n c : Nat) (es : List Ent) (W : World) (h : ScrAt W a n es) (hn : n ≤ maxLen) (hE : wrg1 slot es = 0) :
   Calls Tryz.prog 21 #[.slice a n c, .int .i64 slot] W fun e w' => ∃ v, e = .returned (.tuple #[v, .int .i64 0]) ∧ OwnScr w' W.heap.size v (es.filter (othersP slot)) ∧ Below W.heap.size W w' := by
 have HC := Lib.hid (wrong_one slot a n c es W h hn 27)
 have HOK := Lib.hid (chk_ok (wrg1_ok hE).1)
 have HS := Lib.hid h
 rw [hE] at HC
 clear h hE
 go_enter Tryz.func21, Tryz.ntmps21
 go_wp2_with fail
 refine HC.out.mono ?_; rintro e W2 ⟨rfl, hb2⟩
 have HB2 := Lib.hid hb2
 clear hb2 HC
 go_wp2_with fail
 refine (of_any2 slot W2).mono ?_; rintro e W3 ⟨rfl, hs3, hb3⟩
 have HB3 := Lib.hid (below_step_ HB2.out hb3)
 have HS3 := Lib.hid hs3
 clear hs3 hb3 HB2
 generalize W2.heap.size = bs at *
 go_upto_region 5 with fail
 have hs4 := World.alloc_heap_new W3 (.cells #[.func (.func 100) #[] #[.pointer (some ⟨bs, 0, none⟩)]] 117)
 have hm4 : Mod (fun _ => False) W3 (W3.alloc (.cells #[.func (.func 100) #[] #[.pointer (some ⟨bs, 0, none⟩)]] 117)) := (Mod.refl _ _).alloc _
 generalize W3.alloc (.cells #[.func (.func 100) #[] #[.pointer (some ⟨bs, 0, none⟩)]] 117) = W4 at *
 have HB4 : Hid (Below W.heap.size W W4) := HB3.out.trans (hm4.below HB3.out.size (by simp))
 have HO4 := Lib.hid (cell_of_heap_ hs4)
 have HS4 := Lib.hid (cell_of_heap_ (hm4.heap HS3.out (by simp)))
 clear hs4 hm4 HS3 HB3
 generalize W3.heap.size = bo at *
 go_wp2_with fail
 refine (chosen_any2 _ _ ⟨a, n, c, rfl⟩ ⟨_, _, rfl⟩ W4).mono ?_; rintro e W5 ⟨rfl, h5, hb5⟩
 have HB5 := Lib.hid (below_step_ HB4.out hb5)
 have HM5 : Hid (Mod (fun _ => False) W4 W5) := Mod.of_same hb5
 have HO5 := Lib.hid (HM5.out.cell (by simp) HO4.out)
 have HS5 := Lib.hid (HM5.out.cell (by simp) HS4.out)
 have H5 := Lib.hid h5
 clear h5 hb5 HM5 HO4 HS4 HB4
 generalize W4.heap.size = bl at *
 go_wp2_with fail
 refine (Collect_any a n c _ es (othersP slot) bl (bl + 1) (fun e he => Nat.le_trans (clean_size (HOK.out.2 e he)) (by omega)) hn W5 (is_others slot bo bs W5.heap.size W5 HO5.out HS5.out (World.block_lt_of_cell? W5 _ HO5.out) (World.block_lt_of_cell? W5 _ HS5.out)) H5.out (HS.out.below HB5.out) (by have := HOK.out.1; omega)).mono ?_; rintro e W6 ⟨v, rfl, ho, hb6⟩
 obtain ⟨va, vc, rfl⟩ := ho.form
 have HO6 := Lib.hid (ho.base HB5.out.size)
 have HB6 := Lib.hid (below_step_ HB5.out hb6)
 clear ho hb6
 go_wp2_with fail
 go_ret2
 exact ⟨_, rfl, HO6.out, HB6.out⟩
end View
end Go.Proofs.YtdfmgneicdpjmaaGreat

namespace Go.Proofs.YtdfmgneicdpjmaaGreat
open Go.RowKit Go.Shelf
set_option linter.unusedVariables false
set_option linter.unusedSimpArgs false
set_option maxRecDepth 100000
namespace View
open Resp
def tickB (e : Ent) : Bool := e.kind == 2
end View
end Go.Proofs.YtdfmgneicdpjmaaGreat
