import Derived.Test.YtdfmgneicdpjmaaGreatW41
import Derived.Test.YtdfmgneicdpjmaaGreatW42
namespace Go.Proofs.YtdfmgneicdpjmaaGreat
open Go.RowKit Go.Shelf
attribute [local go_sem] Oper.semAt_some
set_option linter.unusedVariables false
set_option linter.unusedSimpArgs false
set_option maxRecDepth 100000
namespace View
open Resp
def ORow {α : Type} (K : Sh α) (W : World) (base : Nat) (sv : Value) (l : List (α × Value)) : Prop := W.ownsRow base K.T K.size sv l.length (K.flat l) ∧ (∀ x ∈ l, FreshB W base x.2 (K.byt x.1)) ∧ l.Pairwise fun x y => ∀ g, x.2.ownBlock = some g → ¬ y.2.ownBlock = some g
theorem ORow.nil {α : Type} (K : Sh α) (W : World) (base : Nat) : ORow K W base (.slice none 0 0) [] := ⟨owns_nil _ _ _ _, by simp, .nil⟩
theorem ORow.mod {α : Type} {K : Sh α} {S : Nat → Prop} {W W' : World} {base : Nat} {sv : Value} {l : List (α × Value)} (h : ORow K W base sv l) (hm : Mod S W W') (hS : ∀ g, ¬ S g) : ORow K W' base sv l :=
 ⟨ownsRow_mod h.1 hm (fun g _ => hS g), fun x hx => (h.2.1 x hx).mod hm (fun g _ => hS g), h.2.2⟩
theorem ORow.base {α : Type} {K : Sh α} {W : World} {base base' : Nat} {sv : Value} {l : List (α × Value)} (h : ORow K W base sv l) (hb : base' ≤ base) : ORow K W base' sv l :=
 ⟨ownsRow_base h.1 hb, fun x hx => (h.2.1 x hx).base hb, h.2.2⟩
theorem ORow.keep_at {α : Type} {K : Sh α} {W W' : World} {base : Nat} {v : Value} {l : List (α × Value)} (h : ORow K W base v l) {B : Nat} {cs : Array Value} {t : TypeId} {fr : Nat × Nat} (hB : W.heap[B]? = some (.cells cs t fr)) (hm : Mod (fun g => g = B) W W') (ht : ¬ K.T = t) (ht2 : ¬ 5 = t) : ORow K W' base v l := by
 obtain ⟨h2, h3, h4⟩ := h
 refine ⟨owns_keep_at_ h2 hB hm ht, fun x hx => ?_, h4⟩
 obtain ⟨zs, h5, h6⟩ := h3 x hx
 exact ⟨zs, owns_keep_at_ h5 hB hm ht2, h6⟩
theorem ORow.put {α : Type} {K : Sh α} {W : World} {base : Nat} {v : Value} {l : List (α × Value)} (h : ORow K W base v l) {q : Nat} {o : Obj} (o' : Obj) (hl : W.heap[q]? = some o) (ho : o.isCells = false) : ORow K (W.putObj q o') base v l := by
 obtain ⟨h2, h3, h4⟩ := h
 refine ⟨ownsRow_put_ h2 o' hl ho, fun x hx => ?_, h4⟩
 obtain ⟨zs, h5, h6⟩ := h3 x hx
 exact ⟨zs, ownsRow_put_ h5 o' hl ho, h6⟩
theorem ORow.push {α : Type} {K : Sh α} {W W3 : World} {base : Nat} {sv v' v : Value} {l : List (α × Value)} {e : α} (h : ORow K W base sv l) (hT : ¬ K.T = 5) (hv : FreshB W base v (K.byt e)) (hd : ∀ x ∈ l, ∀ g, x.2.ownBlock = some g → ¬ v.ownBlock = some g)
   (ho : W3.ownsRow base K.T K.size v' (l.length + 1) (K.flat l ++ K.cells e v)) (hm : Mod (fun k => some k = sv.ownBlock) W W3) : ORow K W3 base v' (l ++ [(e, v)]) := by
 refine ⟨by rw [K.flat_push]; simpa using ho, fun x hx => ?_, ?_⟩
 · rcases List.mem_append.1 hx with hx | hx
   · obtain ⟨zs, h5, h6⟩ := h.2.1 x hx
     exact ⟨zs, owns_keep_ h5 h.1 hm hT, h6⟩
   · obtain rfl := List.mem_singleton.1 hx
     obtain ⟨zs, h5, h6⟩ := hv
     exact ⟨zs, owns_keep_ h5 h.1 hm hT, h6⟩
 · rw [List.pairwise_append]
   refine ⟨h.2.2, List.pairwise_singleton _ _, fun x hx y hy => ?_⟩
   obtain rfl := List.mem_singleton.1 hy
   exact hd x hx
def movO : Sh (Bool × ByteArray) := ⟨80, 2, fun m v => [.bool m.1, v], fun m => m.2⟩
set_option maxHeartbeats 1000000 in
theorem Frames_no (slot : Int) (a : Option Addr) (n c : Nat) (es : List Ent) (W : World) (h : ScrAt W a n es) (hn : n ≤ maxLen) (E : Int) (hE : wrg1 slot es = E) (h0 : ¬ E = 0) :
   Calls Tryz.prog 30 #[.slice a n c, .int .i64 slot] W fun e w' => e = .returned (.tuple #[.slice none 0 0, .int .i64 E]) ∧ Below W.heap.size W w' := by
 have HC := Lib.hid (wrong_one slot a n c es W h hn 27)
 have h0' : (E != 0) = true := by simpa using h0
 rw [hE] at HC
 clear h hE h0
 go_enter Tryz.func30, Tryz.ntmps30
 go_wp2_with fail
 refine HC.out.mono ?_; rintro e W2 ⟨rfl, hb2⟩
 have HB2 := Lib.hid hb2
 clear hb2
 go_wp2_with fail
 go_ret2
 exact ⟨rfl, HB2.out⟩
theorem heap_put_ {W : World} {l q : Nat} {o : Obj} (o' : Obj) (hl : W.heap[l]? = some o) (ho : o.isCells = false) {cs : Array Value} {t : TypeId} {fr : Nat × Nat} (hq : W.heap[q]? = some (.cells cs t fr)) : (W.putObj l o').heap[q]? = some (.cells cs t fr) :=
 (mod_put_ W l o').heap hq (fun e => by rw [e, hl] at hq; cases hq; cases ho)
theorem below_put_ {base : Nat} {W A : World} (h : Below base W A) (hb : base ≤ W.heap.size) {l : Nat} (o' : Obj) (hl : base ≤ l) : Below base W (A.putObj l o') := h.trans ((mod_put_ A l o').below (Nat.le_trans hb h.size) (fun q hq e => by omega))
theorem ChSt.put {a : Option Addr} {n c : Nat} {iv : Value} {es : List Ent} {bl bi : Nat} {G : World → Prop} {A : World} (h : ChSt a n c iv es bl bi G A) {l : Nat} {o : Obj} (o' : Obj) (hl : A.heap[l]? = some o) (ho : o.isCells = false) (hG : G A → G (A.putObj l o')) : ChSt a n c iv es bl bi G (A.putObj l o') :=
 ⟨heap_put_ o' hl ho h.1, heap_put_ o' hl ho h.2.1, h.2.2.1.put o' hl ho, hG h.2.2.2⟩
theorem FreshB.put {W : World} {base : Nat} {v : Value} {s : ByteArray} (h : FreshB W base v s) {l : Nat} {o : Obj} (o' : Obj) (hl : W.heap[l]? = some o) (ho : o.isCells = false) : FreshB (W.putObj l o') base v s := by
 obtain ⟨zs, h5, h6⟩ := h
 exact ⟨zs, ownsRow_put_ h5 o' hl ho, h6⟩
def FrG (W : World) (base bs : Nat) (slot : Int) (A : World) : Prop := Below base W A ∧ A.heap[bs]? = some (.cells #[.int .i64 slot] 3)
def FrI (W : World) (base O : Nat) (ef : List Ent) (k : Nat) (A : World) : Prop :=
 ∃ sv l, A.heap[O]? = some (.cells #[sv] 22) ∧ l.map Prod.fst = (ef.take k).map Ent.bytes ∧ ORow bytSh A base sv l ∧ O < A.heap.size
def FrAs (W : World) (base O : Nat) (ef : List Ent) (F : Nat → Value → Act) (C : World → Prop) (k : Nat) (a' : Act) (A : World) : Prop :=
 ∃ e v E sv l, ef[k]? = some e ∧ a' = F E (entV e v) ∧ A.heap[E]? = some (.cells #[.int .u8 e.kind, .int .i64 e.slot, .int .i64 e.n, v] 38) ∧ FreshB A base v e.bytes ∧ A.heap[O]? = some (.cells #[sv] 22) ∧ l.map Prod.fst = (ef.take k).map Ent.bytes ∧ ORow bytSh A base sv l ∧ (∀ x ∈ l, ∀ g, x.2.ownBlock = some g → ¬ v.ownBlock = some g) ∧ C A
theorem is_of_fr (slot : Int) (bs base : Nat) (W : World) : IsAt (.func (.func 100) #[] #[.pointer (some ⟨bs, 0, none⟩)]) (ownB slot) (FrG W base bs slot) :=
 ⟨_, _, rfl, enters_of Tryz.func100 (by kernel_rfl) rfl, fun e v A hA hv => of1_any slot bs e v A hv (cell_of_heap_ hA.2)⟩
set_option maxHeartbeats 4000000 in
theorem Frames_yes (slot : Int) (a : Option Addr) (n c : Nat) (es : List Ent) (W : World) (h : ScrAt W a n es) (hn : n ≤ maxLen) (hE : wrg1 slot es = 0) :
   Calls Tryz.prog 30 #[.slice a n c, .int .i64 slot] W fun e w' => ∃ v l, e = .returned (.tuple #[v, .int .i64 0]) ∧ l.map Prod.fst = framesL slot es ∧ ORow bytSh w' W.heap.size v l ∧ Below W.heap.size W w' := by
 obtain ⟨i1, ji, jz0, jz1, jz2⟩ := info_parts infoBytes
 have HC := Lib.hid (wrong_one slot a n c es W h hn 27)
 have HOK := Lib.hid (chk_ok (wrg1_ok hE).1)
 have HS := Lib.hid h
 rw [hE] at HC
 clear h hE
 refine (callsIn_wide (n := 8)).1 ?_
 refine callsIn_of_wp_marks Tryz.func30 rfl trivial ?_ rfl
 simp only [Tryz.ntmps30, List.size_toArray, List.length_cons, List.length_nil, Nat.reduceAdd, Nat.reduceSub, Array.replicate_succ, Array.replicate_zero, List.push_toArray, List.append_toArray, List.nil_append, List.cons_append]
 refine wpIn_wide.2 ?_
 go_wp2_with fail
 refine HC.out.mono ?_; rintro e W2 ⟨rfl, hb2⟩
 have HB2 := Lib.hid hb2
 clear hb2 HC
 go_upto_region 5 with fail
 have hs3 := World.alloc_heap_new W2 (.cells #[.slice none 0 0] 22)
 have hm3 : Mod (fun _ => False) W2 (W2.alloc (.cells #[.slice none 0 0] 22)) := (Mod.refl _ _).alloc _
 have HO3 := Lib.hid hs3
 have HB3 : Hid (Below W.heap.size W (W2.alloc (.cells #[.slice none 0 0] 22))) := HB2.out.trans (hm3.below HB2.out.size (by simp))
 have hOW : W.heap.size ≤ W2.heap.size := HB2.out.size
 clear hs3 hm3 HB2
 generalize W2.alloc (.cells #[.slice none 0 0] 22) = W3 at *
 generalize W2.heap.size = O at *
 go_wp2_with fail
 refine (of_any2 slot W3).mono ?_; rintro e W4 ⟨rfl, hs4, hb4⟩
 have HM4 : Hid (Mod (fun _ => False) W3 W4) := Mod.of_same hb4
 have HB4 := Lib.hid (below_step_ HB3.out hb4)
 have HS4 := Lib.hid hs4
 have HO4 := Lib.hid (HM4.out.heap HO3.out (by simp))
 clear hs4 hb4 HM4 HO3 HB3
 generalize W3.heap.size = bs at *
 go_wp2_with fail
 refine (chosen_any2 _ _ ⟨a, n, c, rfl⟩ ⟨_, _, rfl⟩ W4).mono ?_; rintro e W5 ⟨rfl, h5, hb5⟩
 have HM5 : Hid (Mod (fun _ => False) W4 W5) := Mod.of_same hb5
 have HB5 := Lib.hid (below_step_ HB4.out hb5)
 have HO5 := Lib.hid (HM5.out.heap HO4.out (by simp))
 have HS5 := Lib.hid (HM5.out.heap HS4.out (by simp))
 have H5 := Lib.hid h5
 clear h5 hb5 HM5 HO4 HS4 HB4
 generalize W4.heap.size = bl at *
 have hGm : ∀ A B, FrG W W.heap.size bs slot A → Mod (fun _ => False) A B → FrG W W.heap.size bs slot B := fun A B hA hm => ⟨hA.1.trans (hm.below hA.1.size (by simp)), hm.heap hA.2 (by simp)⟩
 have HGM := Lib.hid hGm
 have HST5 : Hid (ChSt a n c (.func (.func 100) #[] #[.pointer (some ⟨bs, 0, none⟩)]) es bl (bl + 1) (FrG W W.heap.size bs slot) W5) := ⟨H5.out.1, H5.out.2, HS.out.below HB5.out, HB5.out, HS5.out⟩
 have HI0 : Hid (FrI W W.heap.size O (es.filter (ownB slot)) 0 W5) := ⟨_, [], HO5.out, rfl, ORow.nil _ _ _, (Array.getElem?_eq_some_iff.1 HO5.out).1⟩
 have HW5 : Hid (W.heap.size ≤ W5.heap.size) := HB5.out.size
 clear hGm H5 HO5 HS5 HB5
 go_wp2_with fail
 refine (wpIn_wide (n := 8)).1 ?_
 refine wpIn_rangeFunc_st3 rfl (by omega) (gf := 101) (lb := #[.pointer (some ⟨bl, 0, none⟩), .pointer (some ⟨bl + 1, 0, none⟩)]) rfl trivial (enters_of Tryz.func101 (by kernel_rfl) rfl) (fun _ => rfl)
   (chosen1_fr 7 (by omega) a n c (.func (.func 100) #[] #[.pointer (some ⟨bs, 0, none⟩)]) es (ownB slot) bl (bl + 1) (FrG W W.heap.size bs slot) HGM.out (is_of_fr slot bs W.heap.size W) (fun e he => Nat.le_trans (clean_size (HOK.out.2 e he)) (by omega)) hn)
   (fun k hk => hk.elim)
   (fun A' hA => HST5.out.mod HGM.out ((Mod.of_below hA).mono (fun k hk h => by omega)))
   (fun k A' l o1 o' hl hlo ho hS => hS.put o' hlo ho (fun hg => ⟨below_put_ hg.1 (Nat.le_refl _) o' (by have := HW5.out; omega), heap_put_ o' hlo ho hg.2⟩))
   (FrI W W.heap.size O (es.filter (ownB slot)))
   (fun k A' A'' hI' hm => by
     obtain ⟨sv, l, h1, h2, h3, h4⟩ := hI'
     exact ⟨sv, l, hm.heap h1 (by simp), h2, h3.mod hm (by simp), Nat.lt_of_lt_of_le h4 hm.size⟩)
   (fun k A' q o1 o' hl hlo ho hI' => by
     obtain ⟨sv, l, h1, h2, h3, h4⟩ := hI'
     exact ⟨sv, l, heap_put_ o' hlo ho h1, h2, h3.put o' hlo ho, Nat.lt_of_lt_of_le h4 (mod_put_ A' q o').size⟩)
   HI0.out
   (FrAs W W.heap.size O (es.filter (ownB slot)) (fun E x => { tmps := #[.slice a n c, .int .i64 slot, undef, undef, .slice none 0 0, .int .i64 0, .int .i64 0, .pointer (some ⟨O, 0, none⟩), .pointer (some ⟨E, 0, none⟩), .int .i64 slot, .slice a n c, .slice (some ⟨W.heap.size, 0, none⟩) 1 1, .int .i64 0, .int .i64 0, .bool false, undef, .slice a n c, .int .i64 slot, .func (.func 100) #[] #[.pointer (some ⟨bs, 0, none⟩)], .func (.func 101) #[] #[.pointer (some ⟨bl, 0, none⟩), .pointer (some ⟨bl + 1, 0, none⟩)], x, undef, undef, undef, undef, undef, undef], defers := [] }) (ChSt a n c (.func (.func 100) #[] #[.pointer (some ⟨bs, 0, none⟩)]) es bl (bl + 1) (FrG W W.heap.size bs slot)))
   (fun k a' A' l o1 o' hl hlo ho hA => by
     obtain ⟨e, v, E, sv, ll, h1, h2, h3, h4, h5, h6, h7, h8, h9⟩ := hA
     exact ⟨e, v, E, sv, ll, h1, h2, heap_put_ o' hlo ho h3, h4.put o' hlo ho, heap_put_ o' hlo ho h5, h6, h7.put o' hlo ho, h8, h9.put o' hlo ho (fun hg => ⟨below_put_ hg.1 (Nat.le_refl _) o' (by have := HW5.out; omega), heap_put_ o' hlo ho hg.2⟩)⟩)
   ?assign ?body ?done
 case assign =>
   intro l k x W0 Wc K hk hsz hI' hm0 hY hK
   obtain ⟨e, v, he, rfl, hf, hch⟩ := hY
   obtain ⟨sv, ll, i1', i2, i3, i5⟩ := hI'
   simp only [entV]
   obtain ⟨xa, xc, rfl⟩ := hf.str.form
   have hma : Mod (fun _ => False) Wc (Wc.alloc (.cells #[.int .u8 e.kind, .int .i64 e.slot, .int .i64 e.n, .slice xa e.bytes.size xc] 38)) := (Mod.refl _ _).alloc _
   have hmt := hm0.trans hma
   have hb0 : W.heap.size ≤ W0.heap.size := Nat.le_trans HW5.out hsz
   have has : FrAs W W.heap.size O (es.filter (ownB slot)) (fun E x => { tmps := #[.slice a n c, .int .i64 slot, undef, undef, .slice none 0 0, .int .i64 0, .int .i64 0, .pointer (some ⟨O, 0, none⟩), .pointer (some ⟨E, 0, none⟩), .int .i64 slot, .slice a n c, .slice (some ⟨W.heap.size, 0, none⟩) 1 1, .int .i64 0, .int .i64 0, .bool false, undef, .slice a n c, .int .i64 slot, .func (.func 100) #[] #[.pointer (some ⟨bs, 0, none⟩)], .func (.func 101) #[] #[.pointer (some ⟨bl, 0, none⟩), .pointer (some ⟨bl + 1, 0, none⟩)], x, undef, undef, undef, undef, undef, undef], defers := [] }) (ChSt a n c (.func (.func 100) #[] #[.pointer (some ⟨bs, 0, none⟩)]) es bl (bl + 1) (FrG W W.heap.size bs slot)) k ((fun E x => { tmps := #[.slice a n c, .int .i64 slot, undef, undef, .slice none 0 0, .int .i64 0, .int .i64 0, .pointer (some ⟨O, 0, none⟩), .pointer (some ⟨E, 0, none⟩), .int .i64 slot, .slice a n c, .slice (some ⟨W.heap.size, 0, none⟩) 1 1, .int .i64 0, .int .i64 0, .bool false, undef, .slice a n c, .int .i64 slot, .func (.func 100) #[] #[.pointer (some ⟨bs, 0, none⟩)], .func (.func 101) #[] #[.pointer (some ⟨bl, 0, none⟩), .pointer (some ⟨bl + 1, 0, none⟩)], x, undef, undef, undef, undef, undef, undef], defers := [] }) Wc.heap.size (entV e (.slice xa e.bytes.size xc))) (Wc.alloc (.cells #[.int .u8 e.kind, .int .i64 e.slot, .int .i64 e.n, .slice xa e.bytes.size xc] 38)) := by
     refine ⟨e, .slice xa e.bytes.size xc, Wc.heap.size, sv, ll, he, rfl, World.alloc_heap_new _ _, (hf.mod hma (by simp)).base hb0, hmt.heap i1' (by simp), i2, i3.mod hmt (by simp), fun y hy g hg hv => ?_, hch.mod HGM.out hma⟩
     obtain ⟨zs, z1, -⟩ := i3.2.1 y hy
     obtain ⟨zs2, z2, -⟩ := hf
     have h1 := (z1.lt g hg).2
     have h2 := (z2.lt g hv).1
     omega
   have hkf : KeepsFrom W5.heap.size Wc (Wc.alloc (.cells #[.int .u8 e.kind, .int .i64 e.slot, .int .i64 e.n, .slice xa e.bytes.size xc] 38)) := keepsFrom_mod_ hma (fun q o1 _ h => h.elim)
   have HAS := Lib.hid has
   have HKF := Lib.hid hkf
   clear has hkf hma hmt hf hch i1' i2 i3 i5 he
   gi_wp2
   exact hK _ _ HKF.out HAS.out
 case body =>
   intro l k a' Wc hk hA
   obtain ⟨e, v, E, sv, ll, he, rfl, hE, hf, hSv, hll, hgr, hdis, hch⟩ := hA
   simp only [entV]
   obtain ⟨xa, xc, rfl⟩ := hf.str.form
   obtain ⟨va, vc, rfl⟩ := ownsRow_form hgr.1
   obtain ⟨p0, p1, p2, p3, -⟩ := quad_cells_ hE
   have q0 := cell_of_heap_ hSv
   have qf : Wc.frozen? ⟨O, 0, none⟩ = false := by simp [World.frozen?, hSv]
   have HE := Lib.hid hE
   have HF := Lib.hid hf
   have HSV := Lib.hid hSv
   have HLL := Lib.hid hll
   have HGR := Lib.hid hgr
   have HDIS := Lib.hid hdis
   have HCH := Lib.hid hch
   have HEE := Lib.hid he
   have hle : ll.length ≤ 4000 := by
     have := congrArg List.length hll
     simp only [List.length_map] at this
     have h2 := List.length_take_le k (es.filter (ownB slot))
     have h2' := List.length_take_le' k (es.filter (ownB slot))
     have h3 := List.length_filter_le (ownB slot) es
     have h4 := HOK.out.1
     omega
   clear hE hf hSv hll hgr hdis hch he
   have hsz : W.heap.size ≤ Wc.heap.size := HCH.out.2.2.2.1.size
   gi_wp2_with (gi_at_builtin; refine wpListIn_append_own _ rfl _ _ 22 rfl W.heap.size 25 i1 (.slice none 0 0) 1 24 Tryz.underlying22 ji jz0 jz1 jz2 rfl (by decide) _ ll.length _ rfl (HGR.out.1.alloc _) ⟨Wc.heap.size, 0, none⟩ 1 1 [.slice xa e.bytes.size xc] rfl rfl (news_one_ (by simp)) (by simp [Value.oneCell']) (by unfold maxLen; omega) (by omega) (by simp; omega) ?_; intro v' w1 hown' hgrow _; obtain ⟨oa, oc, e1⟩ := owns_form_pos_ hown' (by omega); subst e1; have HOWN := Lib.hid hown'; have hgr' : (Wc.alloc (.cells #[.slice xa e.bytes.size xc] 25)).grownBy w1 (Value.slice va ll.length vc).ownBlock := hgrow; have HM1b := Lib.hid (((Mod.refl _ Wc).alloc _).trans (Mod.of_grownBy hgr')); have HQ1 := Lib.hid (HM1b.out.heap HSV.out (own_other_ HGR.out.1 HSV.out (by decide))); have q1 := cell_of_heap_ HQ1.out; have qf1 : w1.frozen? ⟨O, 0, none⟩ = false := (by simp [World.frozen?, HQ1.out]); clear hown' hgrow hgr')
   have hms := mod_set_ w1 O 0 (.slice (some ⟨oa, 0, none⟩) (ll.length + 1) oc)
   have hmt : Mod (fun q => some q = (Value.slice va ll.length vc).ownBlock ∨ q = O) Wc (w1.setCell ⟨O, 0, none⟩ (.slice (some ⟨oa, 0, none⟩) (ll.length + 1) oc)) := (HM1b.out.mono (fun _ _ h => .inl h)).trans (hms.mono (fun _ _ h => .inr h))
   have hge : ∀ q, some q = (Value.slice va ll.length vc).ownBlock → W.heap.size ≤ q := fun q h => ownBlock_ge_ HGR.out.1 h.symm
   have hbW2 : Below W.heap.size W (w1.setCell ⟨O, 0, none⟩ (.slice (some ⟨oa, 0, none⟩) (ll.length + 1) oc)) := HCH.out.2.2.2.1.trans (hmt.below hsz (fun q hq h => by
     rcases h with h | h
     · have := hge q h; omega
     · omega))
   refine ⟨keepsFrom_mod_ hmt ?_, ⟨.slice (some ⟨oa, 0, none⟩) (ll.length + 1) oc, ll ++ [(e.bytes, .slice xa e.bytes.size xc)], ?_, ?_, ?_, ?_⟩, hmt.heap HCH.out.1 ?_, hmt.heap HCH.out.2.1 ?_, HS.out.below hbW2, hbW2, hmt.heap HCH.out.2.2.2.2 ?_⟩
   · rintro q o1 hq (h | h) ho
     · exact own_isCells_ HGR.out.1 h ho
     · rw [h, HSV.out] at ho; cases ho; rfl
   · have := heap_set_ HQ1.out 0 (.slice (some ⟨oa, 0, none⟩) (ll.length + 1) oc)
     simpa using this
   · rw [List.map_append, HLL.out, List.take_add_one, HEE.out]
     simp
   · exact (HGR.out.push (by decide) HF.out HDIS.out HOWN.out HM1b.out).keep_at HQ1.out hms (by decide) (by decide)
   · exact Nat.lt_of_lt_of_le (Array.getElem?_eq_some_iff.1 HSV.out).1 hmt.size
   · rintro (h | h)
     · exact own_other_ HGR.out.1 HCH.out.1 (by decide) h
     · have h9 := HCH.out.1; rw [h, HSV.out] at h9; cases h9
   · rintro (h | h)
     · exact own_other_ HGR.out.1 HCH.out.2.1 (by decide) h
     · have h9 := HCH.out.2.1; rw [h, HSV.out] at h9; cases h9
   · rintro (h | h)
     · exact own_other_ HGR.out.1 HCH.out.2.2.2.2 (by decide) h
     · have h9 := HCH.out.2.2.2.2; rw [h, HSV.out] at h9; cases h9
 case done =>
   intro D Wc hD hI' hS hK
   obtain ⟨sv, ll, i1', i2, i3, i5⟩ := hI'
   rw [List.take_of_length_le (Nat.le_refl _)] at i2
   obtain ⟨va, vc, rfl⟩ := ownsRow_form i3.1
   have q0 := cell_of_heap_ i1'
   have H2 := Lib.hid i2
   have H3 := Lib.hid i3
   have H4 := Lib.hid hS.2.2.2.1
   have HK := Lib.hid hK
   clear i1' i2 i3 hS hK
   simp only [Exit.inBlock, Exit.then]
   go_wp2_with fail
   refine ⟨by simp, .inl ⟨_, _, rfl, run_takeDeferred HK.out, ?_⟩⟩
   refine ⟨_, results_tmp2 rfl _ _ _, _, ll, rfl, H2.out, H3.out.put _ HK.out rfl, below_put_ H4.out (Nat.le_refl _) _ (by have := HW5.out; omega)⟩
end View
end Go.Proofs.YtdfmgneicdpjmaaGreat

namespace Go.Proofs.YtdfmgneicdpjmaaGreat
open Go.RowKit Go.Shelf
attribute [local go_sem] Oper.semAt_some
set_option linter.unusedVariables false
set_option linter.unusedSimpArgs false
set_option maxRecDepth 100000
namespace View
open Resp
theorem slots_yes (n : Int) (h1 : 1 ≤ n) (h8 : n ≤ 8) (w : World) : Calls Tryz.prog 116 #[.int .i64 n] w fun e w' => e = .returned (.bool true) ∧ w = w' := by
 go_enter Tryz.func116, Tryz.ntmps116
 go_wp2_with fail
 go_ret
 exact ⟨by first | rfl | simp, rfl⟩
theorem Slot_yes (n t : Int) (h1 : 1 ≤ n) (h8 : n ≤ 8) (h0 : 0 ≤ t) (ht : t ≤ 100000) (w : World) :
   Calls Tryz.prog 78 #[.int .i64 n, .int .i64 t] w fun e w' => e = .returned (.tuple #[.int .i64 (t % n), .int .i64 0]) ∧ w = w' := by
 have h9 : t < 1099511627776 := by omega
 go_enter Tryz.func78, Tryz.ntmps78
 go_wp2_with (go_at_call 116; refine (slots_yes _ h1 h8 _).mono ?_; rintro e w' ⟨rfl, rfl⟩)
 go_ret2
 exact ⟨rfl, rfl⟩
theorem two_new_ (W : World) (o1 o2 : Obj) : ((W.alloc o1).alloc o2).heap[W.heap.size]? = some o1 ∧ ((W.alloc o1).alloc o2).heap[W.heap.size + 1]? = some o2 ∧ ((W.alloc o1).alloc o2).heap.size = W.heap.size + 2 ∧ Mod (fun _ => False) W ((W.alloc o1).alloc o2) := by
 refine ⟨(Below.heap_alloc (W.alloc o1) o2 W.heap.size (by simp)).trans (World.alloc_heap_new W o1), ?_, by simp, ((Mod.refl _ _).alloc _).alloc _⟩
 have h2 := World.alloc_heap_new (W.alloc o1) o2
 rwa [World.size_alloc] at h2
set_option maxHeartbeats 1000000 in
theorem Moves_no (n slot : Int) (a : Option Addr) (m c : Nat) (es : List Ent) (W : World) (h : ScrAt W a m es) (hn : m ≤ maxLen) (E : Int) (hE : wrg1 slot es = E) (h0 : ¬ E = 0) :
   Calls Tryz.prog 29 #[.slice a m c, .int .i64 n, .int .i64 slot] W fun e w' => e = .returned (.tuple #[.slice none 0 0, .int .i64 E]) ∧ Below W.heap.size W w' := by
 have h0' : (E != 0) = true := by simpa using h0
 have HS := Lib.hid h
 have HE := Lib.hid hE
 clear h hE h0
 go_enter Tryz.func29, Tryz.ntmps29
 go_upto_region 1 with fail
 obtain ⟨hq1, hq2, hqs, hqm⟩ := two_new_ W (.cells #[.int .i64 n] 3) (.cells #[.int .i64 slot] 3)
 generalize (W.alloc (.cells #[.int .i64 n] 3)).alloc (.cells #[.int .i64 slot] 3) = W1 at *
 have HB1 : Hid (Below W.heap.size W W1) := hqm.below (Nat.le_refl _) (by simp)
 have HC := Lib.hid (wrong_one slot a m c es W1 (HS.out.below HB1.out) hn 27)
 rw [HE.out] at HC
 have k2 := cell_of_heap_ hq2
 clear hq1 hq2 hqs hqm
 go_wp2_with fail
 refine HC.out.mono ?_; rintro e W2 ⟨rfl, hb2⟩
 have HB2 := Lib.hid (below_step_ HB1.out hb2)
 clear hb2
 go_wp2_with fail
 go_ret2
 exact ⟨rfl, HB2.out⟩
set_option maxHeartbeats 1000000 in
theorem Moves_arg (n slot : Int) (a : Option Addr) (m c : Nat) (es : List Ent) (W : World) (h : ScrAt W a m es) (hn : m ≤ maxLen) (hE : wrg1 slot es = 0) (h0 : n < 1 ∨ 8 < n ∨ n ≤ slot) :
   Calls Tryz.prog 29 #[.slice a m c, .int .i64 n, .int .i64 slot] W fun e w' => e = .returned (.tuple #[.slice none 0 0, .int .i64 2]) ∧ Below W.heap.size W w' := by
 have HS := Lib.hid h
 have HE := Lib.hid hE
 clear h hE
 have hcase : n < 1 ∨ (¬ n < 1 ∧ 8 < n) ∨ (¬ n < 1 ∧ ¬ 8 < n ∧ n ≤ slot) := by omega
 clear h0
 obtain ⟨hq1, hq2, hqs, hqm⟩ := two_new_ W (.cells #[.int .i64 n] 3) (.cells #[.int .i64 slot] 3)
 have HB1 : Hid (Below W.heap.size W ((W.alloc (.cells #[.int .i64 n] 3)).alloc (.cells #[.int .i64 slot] 3))) := hqm.below (Nat.le_refl _) (by simp)
 have HQ1 := Lib.hid hq1
 have HQ2 := Lib.hid hq2
 have HC := Lib.hid (wrong_one slot a m c es ((W.alloc (.cells #[.int .i64 n] 3)).alloc (.cells #[.int .i64 slot] 3)) (HS.out.below HB1.out) hn 27)
 rw [HE.out] at HC
 clear hq1 hq2 hqs hqm
 rcases hcase with h1 | ⟨h1, h2⟩ | ⟨h1, h2, h3⟩
 all_goals
   go_enter Tryz.func29, Tryz.ntmps29
   go_upto_region 1 with fail
   generalize (W.alloc (.cells #[.int .i64 n] 3)).alloc (.cells #[.int .i64 slot] 3) = W1 at *
   have k1 := cell_of_heap_ HQ1.out
   have k2 := cell_of_heap_ HQ2.out
   go_wp2_with fail
   refine HC.out.mono ?_; rintro e W2 ⟨rfl, hb2⟩
   have HB2 := Lib.hid (below_step_ HB1.out hb2)
   have k1 := cell_of_heap_ ((hb2.block _ (Array.getElem?_eq_some_iff.1 HQ1.out).1).trans HQ1.out)
   have k2 := cell_of_heap_ ((hb2.block _ (Array.getElem?_eq_some_iff.1 HQ2.out).1).trans HQ2.out)
   clear hb2
   go_wp2_with fail
   go_ret2
   exact ⟨rfl, HB2.out⟩
theorem mv_filter (n slot : Int) (es : List Ent) : mv n slot (es.filter (aloneP slot)) = mv n slot es := by
 have h : ∀ (l : List Ent) (s : Nat × List (Bool × ByteArray)), (l.filter (aloneP slot)).foldl (mvStep n slot) s = l.foldl (mvStep n slot) s := by
   intro l
   induction l with
   | nil => intro s; rfl
   | cons e t ih =>
     intro s
     by_cases ha : aloneP slot e = true
     · rw [List.filter_cons_of_pos ha, List.foldl_cons, List.foldl_cons, ih]
     · rw [List.filter_cons_of_neg ha, ih, List.foldl_cons]
       congr 1
       simp [aloneP] at ha
       simp [mvStep, tickB, ha]
 exact h es (0, [])
theorem mv_len (n slot : Int) (es : List Ent) : (mv n slot es).1 ≤ es.length ∧ (mv n slot es).2.length ≤ es.length := by
 have h : ∀ (l : List Ent) (s : Nat × List (Bool × ByteArray)), (l.foldl (mvStep n slot) s).1 ≤ s.1 + l.length ∧ (l.foldl (mvStep n slot) s).2.length ≤ s.2.length + l.length := by
   intro l
   induction l with
   | nil => intro s; simp
   | cons e t ih =>
     intro s
     rw [List.foldl_cons]
     obtain ⟨h1, h2⟩ := ih (mvStep n slot s e)
     have h3 : (mvStep n slot s e).1 ≤ s.1 + 1 := by unfold mvStep; dsimp only; split <;> omega
     have h4 : (mvStep n slot s e).2.length ≤ s.2.length + 1 := by
       unfold mvStep; dsimp only
       split
       · simp
       · split
         · simp
         · omega
     simp only [List.length_cons]
     omega
 have := h es (0, [])
 simpa [mv] using this
def MvG (W : World) (base bo bs : Nat) (slot : Int) (A : World) : Prop := Below base W A ∧ A.heap[bo]? = some (.cells #[.func (.func 100) #[] #[.pointer (some ⟨bs, 0, none⟩)]] 117) ∧ A.heap[bs]? = some (.cells #[.int .i64 slot] 3)
theorem is_moves_fr (slot : Int) (bo bs base : Nat) (W : World) : IsAt (.func (.func 77) #[] #[.pointer (some ⟨bo, 0, none⟩)]) (aloneP slot) (MvG W base bo bs slot) :=
 ⟨_, _, rfl, enters_of Tryz.func77 (by kernel_rfl) rfl, fun e v A hA hv => moves1_any slot bo bs e v A hv (cell_of_heap_ hA.2.1) (cell_of_heap_ hA.2.2)⟩
def OMv (W : World) (base : Nat) (sv : Value) (l : List ((Bool × ByteArray) × Value)) : Prop := W.ownsRow base movO.T movO.size sv l.length (movO.flat l) ∧ (∀ x ∈ l, FreshB W base x.2 (movO.byt x.1)) ∧ (l.Pairwise fun x y => ∀ g, x.2.ownBlock = some g → ¬ y.2.ownBlock = some g) ∧ ∀ x ∈ l, x.1.1 = true → x.2 = .slice none 0 0
theorem OMv.row {W : World} {base : Nat} {sv : Value} {l : List ((Bool × ByteArray) × Value)} (h : OMv W base sv l) : ORow movO W base sv l := ⟨h.1, h.2.1, h.2.2.1⟩
theorem OMv.nil (W : World) (base : Nat) : OMv W base (.slice none 0 0) [] := ⟨owns_nil _ _ _ _, by simp, .nil, by simp⟩
theorem OMv.mod {S : Nat → Prop} {W W' : World} {base : Nat} {sv : Value} {l : List ((Bool × ByteArray) × Value)} (h : OMv W base sv l) (hm : Mod S W W') (hS : ∀ g, ¬ S g) : OMv W' base sv l :=
 ⟨(h.row.mod hm hS).1, (h.row.mod hm hS).2.1, h.2.2⟩
theorem OMv.keep_at {W W' : World} {base : Nat} {v : Value} {l : List ((Bool × ByteArray) × Value)} (h : OMv W base v l) {B : Nat} {cs : Array Value} {t : TypeId} {fr : Nat × Nat} (hB : W.heap[B]? = some (.cells cs t fr)) (hm : Mod (fun g => g = B) W W') (ht : ¬ movO.T = t) (ht2 : ¬ 5 = t) : OMv W' base v l :=
 ⟨(h.row.keep_at hB hm ht ht2).1, (h.row.keep_at hB hm ht ht2).2.1, h.2.2⟩
theorem OMv.put {W : World} {base : Nat} {v : Value} {l : List ((Bool × ByteArray) × Value)} (h : OMv W base v l) {q : Nat} {o : Obj} (o' : Obj) (hl : W.heap[q]? = some o) (ho : o.isCells = false) : OMv (W.putObj q o') base v l :=
 ⟨(h.row.put o' hl ho).1, (h.row.put o' hl ho).2.1, h.2.2⟩
theorem OMv.push {W W3 : World} {base : Nat} {sv v' v : Value} {l : List ((Bool × ByteArray) × Value)} {e : Bool × ByteArray} (h : OMv W base sv l) (hn : e.1 = true → v = .slice none 0 0) (hv : FreshB W base v (movO.byt e)) (hd : ∀ x ∈ l, ∀ g, x.2.ownBlock = some g → ¬ v.ownBlock = some g)
   (ho : W3.ownsRow base movO.T movO.size v' (l.length + 1) (movO.flat l ++ movO.cells e v)) (hm : Mod (fun k => some k = sv.ownBlock) W W3) : OMv W3 base v' (l ++ [(e, v)]) := by
 have h1 := h.row.push (by decide) hv hd ho hm
 refine ⟨h1.1, h1.2.1, h1.2.2, fun x hx ht => ?_⟩
 rcases List.mem_append.1 hx with hx | hx
 · exact h.2.2.2 x hx ht
 · obtain rfl := List.mem_singleton.1 hx
   exact hn ht
def MvI (n slot : Int) (base N4 S5 Tk O : Nat) (ef : List Ent) (k : Nat) (A : World) : Prop :=
 ∃ sv l, A.heap[O]? = some (.cells #[sv] 50) ∧ l.map Prod.fst = (mv n slot (ef.take k)).2 ∧ OMv A base sv l ∧ A.heap[Tk]? = some (.cells #[.int .i64 ((mv n slot (ef.take k)).1 : Int)] 3) ∧ A.heap[N4]? = some (.cells #[.int .i64 n] 3) ∧ A.heap[S5]? = some (.cells #[.int .i64 slot] 3)
def MvAs (n slot : Int) (base N4 S5 Tk O : Nat) (ef : List Ent) (F : Nat → Value → Act) (C : World → Prop) (k : Nat) (a' : Act) (A : World) : Prop :=
 ∃ e v E sv l, ef[k]? = some e ∧ a' = F E (entV e v) ∧ A.heap[E]? = some (.cells #[.int .u8 e.kind, .int .i64 e.slot, .int .i64 e.n, v] 38) ∧ FreshB A base v e.bytes ∧ A.heap[O]? = some (.cells #[sv] 50) ∧ l.map Prod.fst = (mv n slot (ef.take k)).2 ∧ OMv A base sv l ∧ (∀ x ∈ l, ∀ g, x.2.ownBlock = some g → ¬ v.ownBlock = some g) ∧ A.heap[Tk]? = some (.cells #[.int .i64 ((mv n slot (ef.take k)).1 : Int)] 3) ∧ A.heap[N4]? = some (.cells #[.int .i64 n] 3) ∧ A.heap[S5]? = some (.cells #[.int .i64 slot] 3) ∧ C A
theorem infoMov : (Tryz.prog.info? 80).map (fun i => (i.zero, i.size, i.bytes)) = some (some (.agg #[.bool false, .slice none 0 0]), 2, 32) := by kernel_rfl
set_option maxHeartbeats 4000000 in
theorem Moves_yes (n slot : Int) (hn1 : 1 ≤ n) (hn8 : n ≤ 8) (hsn : slot < n) (a : Option Addr) (m c : Nat) (es : List Ent) (W : World) (h : ScrAt W a m es) (hn : m ≤ maxLen) (hE : wrg1 slot es = 0) :
   Calls Tryz.prog 29 #[.slice a m c, .int .i64 n, .int .i64 slot] W fun e w' => ∃ v l, e = .returned (.tuple #[v, .int .i64 0]) ∧ l.map Prod.fst = (mv n slot es).2 ∧ OMv w' W.heap.size v l ∧ Below W.heap.size W w' := by
 obtain ⟨i1, ji, jz0, jz1, jz2⟩ := info_parts infoMov
 have HOK := Lib.hid (chk_ok (wrg1_ok hE).1)
 have hs0 := (wrg1_ok hE).2
 have HS := Lib.hid h
 have HE := Lib.hid hE
 have hsn' : ¬ n ≤ slot := by omega
 have hn1' : ¬ n < 1 := by omega
 have hn8' : ¬ 8 < n := by omega
 have d1 : decide (n < 1) = false := by simpa using hn1'
 have d2 : decide (8 < n) = false := by simpa using hn8'
 have d3 : decide (n ≤ slot) = false := by simpa using hsn'
 clear h hE hn1' hn8' hsn'
 refine (callsIn_wide (n := 8)).1 ?_
 refine callsIn_of_wp_marks Tryz.func29 rfl trivial ?_ rfl
 simp only [Tryz.ntmps29, List.size_toArray, List.length_cons, List.length_nil, Nat.reduceAdd, Nat.reduceSub, Array.replicate_succ, Array.replicate_zero, List.push_toArray, List.append_toArray, List.nil_append, List.cons_append]
 refine wpIn_wide.2 ?_
 go_upto_region 1 with fail
 obtain ⟨hq1, hq2, hqs, hqm⟩ := two_new_ W (.cells #[.int .i64 n] 3) (.cells #[.int .i64 slot] 3)
 generalize (W.alloc (.cells #[.int .i64 n] 3)).alloc (.cells #[.int .i64 slot] 3) = W1 at *
 have HB1 : Hid (Below W.heap.size W W1) := hqm.below (Nat.le_refl _) (by simp)
 have HC := Lib.hid (wrong_one slot a m c es W1 (HS.out.below HB1.out) hn 27)
 rw [HE.out] at HC
 have k2 := cell_of_heap_ hq2
 have HQ1 := Lib.hid hq1
 have HQ2 := Lib.hid hq2
 clear hq1 hq2 hqs hqm
 go_wp2_with fail
 refine HC.out.mono ?_; rintro e W2 ⟨rfl, hb2⟩
 have HM2 : Hid (Mod (fun _ => False) W1 W2) := Mod.of_same hb2
 have HB2 := Lib.hid (below_step_ HB1.out hb2)
 have HQ1b := Lib.hid (HM2.out.heap HQ1.out (by simp))
 have HQ2b := Lib.hid (HM2.out.heap HQ2.out (by simp))
 have k1 := cell_of_heap_ HQ1b.out
 have k2 := cell_of_heap_ HQ2b.out
 clear hb2 HC HM2 HQ1 HQ2 HB1
 go_wp2_with fail
 refine (of_any2 slot W2).mono ?_; rintro e W3 ⟨rfl, hs3, hb3⟩
 have HM3 : Hid (Mod (fun _ => False) W2 W3) := Mod.of_same hb3
 have HB3 := Lib.hid (below_step_ HB2.out hb3)
 have HS3 := Lib.hid hs3
 have hbs3 : W2.heap.size < W3.heap.size := (Array.getElem?_eq_some_iff.1 hs3).1
 have HQ1c := Lib.hid (HM3.out.heap HQ1b.out (by simp))
 have HQ2c := Lib.hid (HM3.out.heap HQ2b.out (by simp))
 have hWb : W.heap.size + 1 < W2.heap.size := (Array.getElem?_eq_some_iff.1 HQ2b.out).1
 clear hs3 hb3 HM3 HQ1b HQ2b HB2 k1 k2
 generalize hbs : W2.heap.size = bs at *
 clear hbs
 go_upto_region 8 with fail
 have h3n : (((W3.alloc (.cells #[.int .i64 0] 3)).alloc (.cells #[.func (.func 100) #[] #[.pointer (some ⟨bs, 0, none⟩)]] 117)).alloc (.cells #[.slice none 0 0] 50)).heap[W3.heap.size]? = some (.cells #[.int .i64 0] 3) ∧ (((W3.alloc (.cells #[.int .i64 0] 3)).alloc (.cells #[.func (.func 100) #[] #[.pointer (some ⟨bs, 0, none⟩)]] 117)).alloc (.cells #[.slice none 0 0] 50)).heap[W3.heap.size + 1]? = some (.cells #[.func (.func 100) #[] #[.pointer (some ⟨bs, 0, none⟩)]] 117) ∧ (((W3.alloc (.cells #[.int .i64 0] 3)).alloc (.cells #[.func (.func 100) #[] #[.pointer (some ⟨bs, 0, none⟩)]] 117)).alloc (.cells #[.slice none 0 0] 50)).heap[W3.heap.size + 1 + 1]? = some (.cells #[.slice none 0 0] 50) := by
   obtain ⟨g1, g2, g3, -⟩ := two_new_ W3 (.cells #[.int .i64 0] 3) (.cells #[.func (.func 100) #[] #[.pointer (some ⟨bs, 0, none⟩)]] 117)
   have g4 := World.alloc_heap_new ((W3.alloc (.cells #[.int .i64 0] 3)).alloc (.cells #[.func (.func 100) #[] #[.pointer (some ⟨bs, 0, none⟩)]] 117)) (.cells #[.slice none 0 0] 50)
   rw [g3] at g4
   exact ⟨(Below.heap_alloc _ _ _ (by rw [g3]; omega)).trans g1, (Below.heap_alloc _ _ _ (by rw [g3]; omega)).trans g2, g4⟩
 have hm4 : Mod (fun _ => False) W3 (((W3.alloc (.cells #[.int .i64 0] 3)).alloc (.cells #[.func (.func 100) #[] #[.pointer (some ⟨bs, 0, none⟩)]] 117)).alloc (.cells #[.slice none 0 0] 50)) := (((Mod.refl _ _).alloc _).alloc _).alloc _
 generalize ((W3.alloc (.cells #[.int .i64 0] 3)).alloc (.cells #[.func (.func 100) #[] #[.pointer (some ⟨bs, 0, none⟩)]] 117)).alloc (.cells #[.slice none 0 0] 50) = W4 at *
 obtain ⟨h4t, h4o, h4l⟩ := h3n
 have HB4 : Hid (Below W.heap.size W W4) := HB3.out.trans (hm4.below HB3.out.size (by simp))
 have HT4 := Lib.hid h4t
 have HO4 := Lib.hid h4o
 have HL4 := Lib.hid h4l
 have HS4 := Lib.hid (hm4.heap HS3.out (by simp))
 have HN4 := Lib.hid (hm4.heap HQ1c.out (by simp))
 have HZ4 := Lib.hid (hm4.heap HQ2c.out (by simp))
 clear h4t h4o h4l hm4 HS3 HQ1c HQ2c HB3
 generalize W3.heap.size = Tk at *
 go_wp2_with fail
 refine (chosen_any2 _ _ ⟨a, m, c, rfl⟩ ⟨_, _, rfl⟩ W4).mono ?_; rintro e W5 ⟨rfl, h5, hb5⟩
 have HM5 : Hid (Mod (fun _ => False) W4 W5) := Mod.of_same hb5
 have HB5 := Lib.hid (below_step_ HB4.out hb5)
 have HT5 := Lib.hid (HM5.out.heap HT4.out (by simp))
 have HO5 := Lib.hid (HM5.out.heap HO4.out (by simp))
 have HL5 := Lib.hid (HM5.out.heap HL4.out (by simp))
 have HS5 := Lib.hid (HM5.out.heap HS4.out (by simp))
 have HN5 := Lib.hid (HM5.out.heap HN4.out (by simp))
 have HZ5 := Lib.hid (HM5.out.heap HZ4.out (by simp))
 have H5 := Lib.hid h5
 clear h5 hb5 HM5 HT4 HO4 HL4 HS4 HN4 HZ4 HB4
 generalize W4.heap.size = bl at *
 go_wp2_with fail
 have hGm : ∀ A B, MvG W W.heap.size (Tk + 1) bs slot A → Mod (fun _ => False) A B → MvG W W.heap.size (Tk + 1) bs slot B := fun A B hA hm => ⟨hA.1.trans (hm.below hA.1.size (by simp)), hm.heap hA.2.1 (by simp), hm.heap hA.2.2 (by simp)⟩
 have HGM := Lib.hid hGm
 have HST5 : Hid (ChSt a m c (.func (.func 77) #[] #[.pointer (some ⟨Tk + 1, 0, none⟩)]) es bl (bl + 1) (MvG W W.heap.size (Tk + 1) bs slot) W5) := ⟨H5.out.1, H5.out.2, HS.out.below HB5.out, HB5.out, HO5.out, HS5.out⟩
 have HI0 : Hid (MvI n slot W.heap.size W.heap.size (W.heap.size + 1) Tk (Tk + 1 + 1) (es.filter (aloneP slot)) 0 W5) := ⟨_, [], HL5.out, rfl, OMv.nil _ _, HT5.out, HN5.out, HZ5.out⟩
 have HW5 : Hid (W.heap.size ≤ W5.heap.size) := HB5.out.size
 clear hGm H5 HO5 HS5 HB5 HT5 HN5 HZ5 HL5
 refine (wpIn_wide (n := 8)).1 ?_
 refine wpIn_rangeFunc_st3 rfl (by omega) (gf := 101) (lb := #[.pointer (some ⟨bl, 0, none⟩), .pointer (some ⟨bl + 1, 0, none⟩)]) rfl trivial (enters_of Tryz.func101 (by kernel_rfl) rfl) (fun _ => rfl)
   (chosen1_fr 7 (by omega) a m c (.func (.func 77) #[] #[.pointer (some ⟨Tk + 1, 0, none⟩)]) es (aloneP slot) bl (bl + 1) (MvG W W.heap.size (Tk + 1) bs slot) HGM.out (is_moves_fr slot (Tk + 1) bs W.heap.size W) (fun e he => Nat.le_trans (clean_size (HOK.out.2 e he)) (by omega)) hn)
   (fun k hk => hk.elim)
   (fun A' hA => HST5.out.mod HGM.out ((Mod.of_below hA).mono (fun k hk h => by omega)))
   (fun k A' l o1 o' hl hlo ho hS => hS.put o' hlo ho (fun hg => ⟨below_put_ hg.1 (Nat.le_refl _) o' (by have := HW5.out; omega), heap_put_ o' hlo ho hg.2.1, heap_put_ o' hlo ho hg.2.2⟩))
   (MvI n slot W.heap.size W.heap.size (W.heap.size + 1) Tk (Tk + 1 + 1) (es.filter (aloneP slot)))
   (fun k A' A'' hI' hm => by
     obtain ⟨sv, l, h1, h2, h3, h4, h5, h6⟩ := hI'
     exact ⟨sv, l, hm.heap h1 (by simp), h2, h3.mod hm (by simp), hm.heap h4 (by simp), hm.heap h5 (by simp), hm.heap h6 (by simp)⟩)
   (fun k A' q o1 o' hl hlo ho hI' => by
     obtain ⟨sv, l, h1, h2, h3, h4, h5, h6⟩ := hI'
     exact ⟨sv, l, heap_put_ o' hlo ho h1, h2, h3.put o' hlo ho, heap_put_ o' hlo ho h4, heap_put_ o' hlo ho h5, heap_put_ o' hlo ho h6⟩)
   HI0.out
   (MvAs n slot W.heap.size W.heap.size (W.heap.size + 1) Tk (Tk + 1 + 1) (es.filter (aloneP slot)) (fun E x => { tmps := #[.slice a m c, .int .i64 n, .int .i64 slot, undef, .pointer (some ⟨W.heap.size, 0, none⟩), .pointer (some ⟨W.heap.size + 1, 0, none⟩), .slice none 0 0, .int .i64 0, .int .i64 0, .pointer (some ⟨Tk, 0, none⟩), .pointer (some ⟨Tk + 1, 0, none⟩), .pointer (some ⟨Tk + 1 + 1, 0, none⟩), .pointer (some ⟨E, 0, none⟩), undef, undef, .int .i64 slot, .slice a m c, .slice (some ⟨W1.heap.size, 0, none⟩) 1 1, .int .i64 0, .int .i64 0, .bool false, undef, .int .i64 n, .bool false, .bool false, .int .i64 n, .bool false, .bool false, .bool false, .int .i64 slot, .int .i64 n, .bool false, .bool false, .int .i64 slot, .func (.func 100) #[] #[.pointer (some ⟨bs, 0, none⟩)], .slice a m c, .func (.func 77) #[] #[.pointer (some ⟨Tk + 1, 0, none⟩)], .func (.func 101) #[] #[.pointer (some ⟨bl, 0, none⟩), .pointer (some ⟨bl + 1, 0, none⟩)], x, undef, undef, undef, undef, undef, undef, undef, undef, undef, undef, undef, undef, undef, undef, undef, undef, undef, undef, undef, undef, undef, undef, undef, undef, undef], defers := [] }) (ChSt a m c (.func (.func 77) #[] #[.pointer (some ⟨Tk + 1, 0, none⟩)]) es bl (bl + 1) (MvG W W.heap.size (Tk + 1) bs slot)))
   (fun k a' A' l o1 o' hl hlo ho hA => by
     obtain ⟨e, v, E, sv, ll, h1, h2, h3, h4, h5, h6, h7, h8, h9, h10, h11, h12⟩ := hA
     exact ⟨e, v, E, sv, ll, h1, h2, heap_put_ o' hlo ho h3, h4.put o' hlo ho, heap_put_ o' hlo ho h5, h6, h7.put o' hlo ho, h8, heap_put_ o' hlo ho h9, heap_put_ o' hlo ho h10, heap_put_ o' hlo ho h11, h12.put o' hlo ho (fun hg => ⟨below_put_ hg.1 (Nat.le_refl _) o' (by have := HW5.out; omega), heap_put_ o' hlo ho hg.2.1, heap_put_ o' hlo ho hg.2.2⟩)⟩)
   ?assign ?body ?done
 case assign =>
   intro l k x W0 Wc K hk hsz hI' hm0 hY hK
   obtain ⟨e, v, he, rfl, hf, hch⟩ := hY
   obtain ⟨sv, ll, i1', i2, i3, i4, i5, i6⟩ := hI'
   simp only [entV]
   obtain ⟨xa, xc, rfl⟩ := hf.str.form
   have hma : Mod (fun _ => False) Wc (Wc.alloc (.cells #[.int .u8 e.kind, .int .i64 e.slot, .int .i64 e.n, .slice xa e.bytes.size xc] 38)) := (Mod.refl _ _).alloc _
   have hmt := hm0.trans hma
   have hb0 : W.heap.size ≤ W0.heap.size := Nat.le_trans HW5.out hsz
   have has : MvAs n slot W.heap.size W.heap.size (W.heap.size + 1) Tk (Tk + 1 + 1) (es.filter (aloneP slot)) (fun E x => { tmps := #[.slice a m c, .int .i64 n, .int .i64 slot, undef, .pointer (some ⟨W.heap.size, 0, none⟩), .pointer (some ⟨W.heap.size + 1, 0, none⟩), .slice none 0 0, .int .i64 0, .int .i64 0, .pointer (some ⟨Tk, 0, none⟩), .pointer (some ⟨Tk + 1, 0, none⟩), .pointer (some ⟨Tk + 1 + 1, 0, none⟩), .pointer (some ⟨E, 0, none⟩), undef, undef, .int .i64 slot, .slice a m c, .slice (some ⟨W1.heap.size, 0, none⟩) 1 1, .int .i64 0, .int .i64 0, .bool false, undef, .int .i64 n, .bool false, .bool false, .int .i64 n, .bool false, .bool false, .bool false, .int .i64 slot, .int .i64 n, .bool false, .bool false, .int .i64 slot, .func (.func 100) #[] #[.pointer (some ⟨bs, 0, none⟩)], .slice a m c, .func (.func 77) #[] #[.pointer (some ⟨Tk + 1, 0, none⟩)], .func (.func 101) #[] #[.pointer (some ⟨bl, 0, none⟩), .pointer (some ⟨bl + 1, 0, none⟩)], x, undef, undef, undef, undef, undef, undef, undef, undef, undef, undef, undef, undef, undef, undef, undef, undef, undef, undef, undef, undef, undef, undef, undef, undef, undef], defers := [] }) (ChSt a m c (.func (.func 77) #[] #[.pointer (some ⟨Tk + 1, 0, none⟩)]) es bl (bl + 1) (MvG W W.heap.size (Tk + 1) bs slot)) k ((fun E x => { tmps := #[.slice a m c, .int .i64 n, .int .i64 slot, undef, .pointer (some ⟨W.heap.size, 0, none⟩), .pointer (some ⟨W.heap.size + 1, 0, none⟩), .slice none 0 0, .int .i64 0, .int .i64 0, .pointer (some ⟨Tk, 0, none⟩), .pointer (some ⟨Tk + 1, 0, none⟩), .pointer (some ⟨Tk + 1 + 1, 0, none⟩), .pointer (some ⟨E, 0, none⟩), undef, undef, .int .i64 slot, .slice a m c, .slice (some ⟨W1.heap.size, 0, none⟩) 1 1, .int .i64 0, .int .i64 0, .bool false, undef, .int .i64 n, .bool false, .bool false, .int .i64 n, .bool false, .bool false, .bool false, .int .i64 slot, .int .i64 n, .bool false, .bool false, .int .i64 slot, .func (.func 100) #[] #[.pointer (some ⟨bs, 0, none⟩)], .slice a m c, .func (.func 77) #[] #[.pointer (some ⟨Tk + 1, 0, none⟩)], .func (.func 101) #[] #[.pointer (some ⟨bl, 0, none⟩), .pointer (some ⟨bl + 1, 0, none⟩)], x, undef, undef, undef, undef, undef, undef, undef, undef, undef, undef, undef, undef, undef, undef, undef, undef, undef, undef, undef, undef, undef, undef, undef, undef, undef], defers := [] }) Wc.heap.size (entV e (.slice xa e.bytes.size xc))) (Wc.alloc (.cells #[.int .u8 e.kind, .int .i64 e.slot, .int .i64 e.n, .slice xa e.bytes.size xc] 38)) := by
     refine ⟨e, .slice xa e.bytes.size xc, Wc.heap.size, sv, ll, he, rfl, World.alloc_heap_new _ _, (hf.mod hma (by simp)).base hb0, hmt.heap i1' (by simp), i2, i3.mod hmt (by simp), fun y hy g hg hv => ?_, hmt.heap i4 (by simp), hmt.heap i5 (by simp), hmt.heap i6 (by simp), hch.mod HGM.out hma⟩
     obtain ⟨zs, z1, -⟩ := i3.2.1 y hy
     obtain ⟨zs2, z2, -⟩ := hf
     have h1 := (z1.lt g hg).2
     have h2 := (z2.lt g hv).1
     omega
   have hkf : KeepsFrom W5.heap.size Wc (Wc.alloc (.cells #[.int .u8 e.kind, .int .i64 e.slot, .int .i64 e.n, .slice xa e.bytes.size xc] 38)) := keepsFrom_mod_ hma (fun q o1 _ h => h.elim)
   have HAS := Lib.hid has
   have HKF := Lib.hid hkf
   clear has hkf hma hmt hf hch i1' i2 i3 i4 i5 i6 he
   gi_wp2
   exact hK _ _ HKF.out HAS.out
 case body =>
   intro l k a' Wc hk hA
   obtain ⟨e, v, E, sv, ll, he, rfl, hE, hf, hSv, hll, hgr, hdis, hT, hN, hZ, hch⟩ := hA
   simp only [entV]
   obtain ⟨xa, xc, rfl⟩ := hf.str.form
   obtain ⟨va, vc, rfl⟩ := ownsRow_form hgr.1
   obtain ⟨p0, p1, p2, p3, -⟩ := quad_cells_ hE
   have q0 := cell_of_heap_ hSv
   have qt := cell_of_heap_ hT
   have qn := cell_of_heap_ hN
   have qz := cell_of_heap_ hZ
   have qf : Wc.frozen? ⟨Tk + 1 + 1, 0, none⟩ = false := by simp [World.frozen?, hSv]
   have qg : Wc.frozen? ⟨Tk, 0, none⟩ = false := by simp [World.frozen?, hT]
   have ha : aloneP slot e = true := (List.mem_filter.1 (List.mem_of_getElem? he)).2
   have hkl := (List.getElem?_eq_some_iff.1 he).1
   have hmv : mv n slot ((es.filter (aloneP slot)).take (k + 1)) = mvStep n slot (mv n slot ((es.filter (aloneP slot)).take k)) e := by
     rw [mv_take hkl]; congr 1; exact (List.getElem?_eq_some_iff.1 he).2
   have hml := mv_len n slot ((es.filter (aloneP slot)).take k)
   have hl4 : ((es.filter (aloneP slot)).take k).length ≤ 4000 := by
     have h2' := List.length_take_le' k (es.filter (aloneP slot))
     have h3 := List.length_filter_le (aloneP slot) es
     have h4 := HOK.out.1
     omega
   have hle : ll.length ≤ 4000 := by
     have := congrArg List.length hll
     simp only [List.length_map] at this
     omega
   have HE := Lib.hid hE
   have HF := Lib.hid hf
   have HSV := Lib.hid hSv
   have HLL := Lib.hid hll
   have HGR := Lib.hid hgr
   have HDIS := Lib.hid hdis
   have HCH := Lib.hid hch
   have HEE := Lib.hid he
   have HT := Lib.hid hT
   have HN := Lib.hid hN
   have HZ := Lib.hid hZ
   have HMV := Lib.hid hmv
   have HAA := Lib.hid ha
   have hsz : W.heap.size ≤ Wc.heap.size := HCH.out.2.2.2.1.size
   clear hE hf hSv hll hgr hdis hch he hT hN hZ hmv ha
   generalize hmk : mv n slot ((es.filter (aloneP slot)).take k) = mk at *
   have HMK := Lib.hid hmk
   clear hmk
   obtain ⟨t, ml⟩ := mk
   dsimp only at *
   have ht0 : (0 : Int) ≤ t := by omega
   have ht1 : (t : Int) ≤ 4000 := by omega
   by_cases hk1 : e.kind = 1
   · have HA : Hid (mv n slot ((es.filter (aloneP slot)).take (k + 1)) = (t, ml ++ [(false, e.bytes)])) := by
       have h1 := HAA.out
       simp [aloneP, hk1] at h1
       rw [Hid, HMV.out]
       simp [mvStep, tickB, hk1, h1]
     rw [hk1] at p0
     clear hk1 HMV HAA
     gi_wp2_with (gi_at_builtin; refine wpListIn_append_own _ rfl _ _ 50 rfl W.heap.size 80 i1 (.agg #[.bool false, .slice none 0 0]) 2 32 Tryz.underlying50 ji jz0 jz1 jz2 rfl (by decide) _ ll.length _ rfl (HGR.out.1.alloc _) ⟨Wc.heap.size, 0, none⟩ 1 1 [.bool false, .slice xa e.bytes.size xc] rfl rfl (news_k_ (World.alloc_heap_new Wc (.cells #[.bool false, .slice xa e.bytes.size xc] 80))) (by simp [Value.oneCell']) (by unfold maxLen; omega) (by omega) (by simp; omega) ?_; intro v' w1 hown' hgrow _; obtain ⟨oa, oc, e1⟩ := owns_form_pos_ hown' (by omega); subst e1; have HOWN := Lib.hid hown'; have hgr' : (Wc.alloc (.cells #[.bool false, .slice xa e.bytes.size xc] 80)).grownBy w1 (Value.slice va ll.length vc).ownBlock := hgrow; have HM1b := Lib.hid (((Mod.refl _ Wc).alloc _).trans (Mod.of_grownBy hgr')); have HQ1 := Lib.hid (HM1b.out.heap HSV.out (own_other_ HGR.out.1 HSV.out (by decide))); have q1 := cell_of_heap_ HQ1.out; have qf1 : w1.frozen? ⟨Tk + 1 + 1, 0, none⟩ = false := (by simp [World.frozen?, HQ1.out]); clear hown' hgrow hgr')
     have hms := mod_set_ w1 (Tk + 1 + 1) 0 (.slice (some ⟨oa, 0, none⟩) (ll.length + 1) oc)
     have hmt : Mod (fun q => some q = (Value.slice va ll.length vc).ownBlock ∨ q = Tk + 1 + 1) Wc (w1.setCell ⟨Tk + 1 + 1, 0, none⟩ (.slice (some ⟨oa, 0, none⟩) (ll.length + 1) oc)) := (HM1b.out.mono (fun _ _ h => .inl h)).trans (hms.mono (fun _ _ h => .inr h))
     have hge : ∀ q, some q = (Value.slice va ll.length vc).ownBlock → W.heap.size ≤ q := fun q h => ownBlock_ge_ HGR.out.1 h.symm
     have hnm : ∀ {q : Nat} {cs : Array Value} {ty : TypeId}, Wc.heap[q]? = some (.cells cs ty) → ¬ 80 = ty → ¬ 50 = ty → ¬ (some q = (Value.slice va ll.length vc).ownBlock ∨ q = Tk + 1 + 1) := by
       rintro q cs ty hq h1 h2 (h | h)
       · exact own_other_ HGR.out.1 hq h1 h
       · rw [h, HSV.out] at hq; cases hq; exact h2 rfl
     have hbW2 : Below W.heap.size W (w1.setCell ⟨Tk + 1 + 1, 0, none⟩ (.slice (some ⟨oa, 0, none⟩) (ll.length + 1) oc)) := HCH.out.2.2.2.1.trans (hmt.below hsz (fun q hq h => by
       rcases h with h | h
       · have := hge q h; omega
       · omega))
     refine ⟨keepsFrom_mod_ hmt ?_, ⟨.slice (some ⟨oa, 0, none⟩) (ll.length + 1) oc, ll ++ [((false, e.bytes), .slice xa e.bytes.size xc)], ?_, ?_, ?_, ?_, hmt.heap HN.out (hnm HN.out (by decide) (by decide)), hmt.heap HZ.out (hnm HZ.out (by decide) (by decide))⟩, hmt.heap HCH.out.1 (hnm HCH.out.1 (by decide) (by decide)), hmt.heap HCH.out.2.1 (hnm HCH.out.2.1 (by decide) (by decide)), HS.out.below hbW2, hbW2, hmt.heap HCH.out.2.2.2.2.1 (hnm HCH.out.2.2.2.2.1 (by decide) (by decide)), hmt.heap HCH.out.2.2.2.2.2 (hnm HCH.out.2.2.2.2.2 (by decide) (by decide))⟩
     · rintro q o1 hq (h | h) ho
       · exact own_isCells_ HGR.out.1 h ho
       · rw [h, HSV.out] at ho; cases ho; rfl
     · have := heap_set_ HQ1.out 0 (.slice (some ⟨oa, 0, none⟩) (ll.length + 1) oc)
       simpa using this
     · rw [HA.out, List.map_append, HLL.out]
       rfl
     · exact (HGR.out.push (e := (false, e.bytes)) (by simp) HF.out HDIS.out HOWN.out HM1b.out).keep_at HQ1.out hms (by decide) (by decide)
     · rw [HA.out]
       exact hmt.heap HT.out (hnm HT.out (by decide) (by decide))
   · have hk2 : e.kind = 2 := by
       have h1 := HAA.out
       simp [aloneP, ownB, hk1] at h1
       exact h1
     have hno : ownB slot e = false := by simp [ownB, hk1]
     have hk1' : (e.kind == 1) = false := by simpa using hk1
     have HK2 := Lib.hid hk2
     have HNO := Lib.hid hno
     clear hk1 hk2 hno
     gi_wp2
     refine ⟨trivial, CallsIn.inRound l (callsIn_wide.2 ((Slot_yes n t hn1 hn8 ht0 (by omega) Wc).mono ?_))⟩
     rintro r w2 ⟨rfl, rfl⟩
     have hw1 : IntKind.i64.wrap ((t : Int) + 1) = (t : Int) + 1 := by rw [IntKind.wrap_i64]; omega
     by_cases hq : (t : Int) % n = slot
     · have hq' : ((t : Int) % n == slot) = true := by simpa using hq
       have HA : Hid (mv n slot ((es.filter (aloneP slot)).take (k + 1)) = (t + 1, ml ++ [(true, ByteArray.empty)])) := by
         rw [Hid, HMV.out]
         simp [mvStep, tickB, HK2.out, HNO.out, hq]
       clear hq HMV HAA
       have hTO : ¬ Tk = Tk + 1 + 1 := by omega
       have hOT : ¬ Tk + 1 + 1 = Tk := by omega
       gi_wp2_with (gi_at_builtin; refine wpListIn_append_own _ rfl _ _ 50 rfl W.heap.size 80 i1 (.agg #[.bool false, .slice none 0 0]) 2 32 Tryz.underlying50 ji jz0 jz1 jz2 rfl (by decide) _ ll.length _ rfl (HGR.out.1.alloc _) ⟨Wc.heap.size, 0, none⟩ 1 1 [.bool true, .slice none 0 0] rfl rfl (news_k_ (World.alloc_heap_new Wc (.cells #[.bool true, .slice none 0 0] 80))) (by simp [Value.oneCell']) (by unfold maxLen; omega) (by omega) (by simp; omega) ?_; intro v' w1 hown' hgrow _; obtain ⟨oa, oc, e1⟩ := owns_form_pos_ hown' (by omega); subst e1; have HOWN := Lib.hid hown'; have hgr' : (Wc.alloc (.cells #[.bool true, .slice none 0 0] 80)).grownBy w1 (Value.slice va ll.length vc).ownBlock := hgrow; have HM1b := Lib.hid (((Mod.refl _ Wc).alloc _).trans (Mod.of_grownBy hgr')); have HQ1 := Lib.hid (HM1b.out.heap HSV.out (own_other_ HGR.out.1 HSV.out (by decide))); have q1 := cell_of_heap_ HQ1.out; have qf1 : w1.frozen? ⟨Tk + 1 + 1, 0, none⟩ = false := (by simp [World.frozen?, HQ1.out]); have HQt := Lib.hid (HM1b.out.heap HT.out (own_other_ HGR.out.1 HT.out (by decide))); have q2 := cell_of_heap_ HQt.out; have qf2 : w1.frozen? ⟨Tk, 0, none⟩ = false := (by simp [World.frozen?, HQt.out]); clear hown' hgrow hgr')
       have hms := mod_set_ w1 (Tk + 1 + 1) 0 (.slice (some ⟨oa, 0, none⟩) (ll.length + 1) oc)
       have hms2 := mod_set_ (w1.setCell ⟨Tk + 1 + 1, 0, none⟩ (.slice (some ⟨oa, 0, none⟩) (ll.length + 1) oc)) Tk 0 (.int .i64 ((t : Int) + 1))
       have hmt : Mod (fun q => some q = (Value.slice va ll.length vc).ownBlock ∨ q = Tk + 1 + 1 ∨ q = Tk) Wc ((w1.setCell ⟨Tk + 1 + 1, 0, none⟩ (.slice (some ⟨oa, 0, none⟩) (ll.length + 1) oc)).setCell ⟨Tk, 0, none⟩ (.int .i64 ((t : Int) + 1))) := ((HM1b.out.mono (fun _ _ h => .inl h)).trans (hms.mono (fun _ _ h => .inr (.inl h)))).trans (hms2.mono (fun _ _ h => .inr (.inr h)))
       have hge : ∀ q, some q = (Value.slice va ll.length vc).ownBlock → W.heap.size ≤ q := fun q h => ownBlock_ge_ HGR.out.1 h.symm
       have hnm : ∀ {q : Nat} {cs : Array Value} {ty : TypeId}, Wc.heap[q]? = some (.cells cs ty) → ¬ 80 = ty → ¬ 50 = ty → ¬ q = Tk → ¬ (some q = (Value.slice va ll.length vc).ownBlock ∨ q = Tk + 1 + 1 ∨ q = Tk) := by
         rintro q cs ty hq h1 h2 h3 (h | h | h)
         · exact own_other_ HGR.out.1 hq h1 h
         · rw [h, HSV.out] at hq; cases hq; exact h2 rfl
         · exact h3 h
       have hnt : ∀ {q : Nat} {cs : Array Value} {ty : TypeId}, Wc.heap[q]? = some (.cells cs ty) → ¬ 3 = ty → ¬ q = Tk := by
         rintro q cs ty hq h1 rfl
         rw [HT.out] at hq; cases hq; exact h1 rfl
       have hbW2 : Below W.heap.size W ((w1.setCell ⟨Tk + 1 + 1, 0, none⟩ (.slice (some ⟨oa, 0, none⟩) (ll.length + 1) oc)).setCell ⟨Tk, 0, none⟩ (.int .i64 ((t : Int) + 1))) := HCH.out.2.2.2.1.trans (hmt.below hsz (fun q hq h => by
         rcases h with h | h | h
         · have := hge q h; omega
         · omega
         · omega))
       refine ⟨keepsFrom_mod_ hmt ?_, ⟨.slice (some ⟨oa, 0, none⟩) (ll.length + 1) oc, ll ++ [((true, ByteArray.empty), .slice none 0 0)], ?_, ?_, ?_, ?_, hmt.heap HN.out (hnm HN.out (by decide) (by decide) (by omega)), hmt.heap HZ.out (hnm HZ.out (by decide) (by decide) (by omega))⟩, hmt.heap HCH.out.1 (hnm HCH.out.1 (by decide) (by decide) (hnt HCH.out.1 (by decide))), hmt.heap HCH.out.2.1 (hnm HCH.out.2.1 (by decide) (by decide) (hnt HCH.out.2.1 (by decide))), HS.out.below hbW2, hbW2, hmt.heap HCH.out.2.2.2.2.1 (hnm HCH.out.2.2.2.2.1 (by decide) (by decide) (hnt HCH.out.2.2.2.2.1 (by decide))), hmt.heap HCH.out.2.2.2.2.2 (hnm HCH.out.2.2.2.2.2 (by decide) (by decide) (by omega))⟩
       · rintro q o1 hq (h | h | h) ho
         · exact own_isCells_ HGR.out.1 h ho
         · rw [h, HSV.out] at ho; cases ho; rfl
         · rw [h, HT.out] at ho; cases ho; rfl
       · refine hms2.heap ?_ hOT
         have := heap_set_ HQ1.out 0 (.slice (some ⟨oa, 0, none⟩) (ll.length + 1) oc)
         simpa using this
       · rw [HA.out, List.map_append, HLL.out]
         rfl
       · have h1 := (HGR.out.push (e := (true, ByteArray.empty)) (v := .slice none 0 0) (fun _ => rfl) (FreshB.nil _ _) (fun x hx g hg => by simp [Value.ownBlock]) HOWN.out HM1b.out).keep_at HQ1.out hms (by decide) (by decide)
         exact h1.keep_at (hms.heap HQt.out hTO) hms2 (by decide) (by decide)
       · rw [HA.out]
         have := heap_set_ (hms.heap HQt.out hTO) 0 (.int .i64 ((t : Int) + 1))
         simpa using this
     · have hq' : ((t : Int) % n == slot) = false := by simpa using hq
       have HA : Hid (mv n slot ((es.filter (aloneP slot)).take (k + 1)) = (t + 1, ml)) := by
         rw [Hid, HMV.out]
         simp [mvStep, tickB, HK2.out, HNO.out, hq]
       clear hq HMV HAA
       gi_wp2
       have hms := mod_set_ Wc Tk 0 (.int .i64 ((t : Int) + 1))
       have hnt : ∀ {q : Nat} {cs : Array Value} {ty : TypeId}, Wc.heap[q]? = some (.cells cs ty) → ¬ 3 = ty → ¬ q = Tk := by
         rintro q cs ty hq h1 rfl
         rw [HT.out] at hq; cases hq; exact h1 rfl
       have hbW2 : Below W.heap.size W (Wc.setCell ⟨Tk, 0, none⟩ (.int .i64 ((t : Int) + 1))) := HCH.out.2.2.2.1.trans (hms.below hsz (fun q hq h => by omega))
       refine ⟨keepsFrom_mod_ hms ?_, ⟨.slice va ll.length vc, ll, hms.heap HSV.out (by omega), ?_, HGR.out.keep_at HT.out hms (by decide) (by decide), ?_, hms.heap HN.out (by omega), hms.heap HZ.out (by omega)⟩, hms.heap HCH.out.1 (hnt HCH.out.1 (by decide)), hms.heap HCH.out.2.1 (hnt HCH.out.2.1 (by decide)), HS.out.below hbW2, hbW2, hms.heap HCH.out.2.2.2.2.1 (hnt HCH.out.2.2.2.2.1 (by decide)), hms.heap HCH.out.2.2.2.2.2 (by omega)⟩
       · rintro q o1 hq h ho
         rw [h, HT.out] at ho; cases ho; rfl
       · rw [HA.out, HLL.out]
       · rw [HA.out]
         have := heap_set_ HT.out 0 (.int .i64 ((t : Int) + 1))
         simpa using this
 case done =>
   intro D Wc hD hI' hS hK
   obtain ⟨sv, ll, i1', i2, i3, -, -, -⟩ := hI'
   rw [List.take_of_length_le (Nat.le_refl _), mv_filter] at i2
   obtain ⟨va, vc, rfl⟩ := ownsRow_form i3.1
   have q0 := cell_of_heap_ i1'
   have H2 := Lib.hid i2
   have H3 := Lib.hid i3
   have H4 := Lib.hid hS.2.2.2.1
   have HK := Lib.hid hK
   clear i1' i2 i3 hS hK
   simp only [Exit.inBlock, Exit.then]
   go_wp2_with fail
   refine ⟨by simp, .inl ⟨_, _, rfl, run_takeDeferred HK.out, ?_⟩⟩
   refine ⟨_, results_tmp2 rfl _ _ _, _, ll, rfl, H2.out, H3.out.put _ HK.out rfl, below_put_ H4.out (Nat.le_refl _) _ (by have := HW5.out; omega)⟩
end View
end Go.Proofs.YtdfmgneicdpjmaaGreat

namespace Go.Proofs.YtdfmgneicdpjmaaGreat
open Go.RowKit Go.Shelf
set_option linter.unusedVariables false
set_option linter.unusedSimpArgs false
set_option maxRecDepth 100000
namespace View
open Resp
theorem owns_setN {w : World} {base : Nat} {e : TypeId} {size g n c : Nat} {xs : List Value} (h : w.ownsRow base e size (.slice (some ⟨g, 0, none⟩) n c) n xs) (i : Nat) (u : Value) : (w.setCell ⟨g, i, none⟩ u).ownsRow base e size (.slice (some ⟨g, 0, none⟩) n c) n (xs.set i u) := by
 refine ⟨by simpa using h.1, ?_⟩
 rcases h.2 with ⟨h1, _⟩ | ⟨g', c', cur, h1, h2, h3, h4, h5, h6, h7⟩
 · cases h1
 · injection h1 with e1 e2 e3
   injection e1 with e1
   injection e1 with e1
   subst e1 e3
   obtain ⟨hlt, hk⟩ := Array.getElem?_eq_some_iff.1 h3
   refine .inr ⟨g, c, cur.setIfInBounds i u, rfl, h2, ?_, h4, h5, by simpa using h6, ?_⟩
   · show (w.heap.modify g _)[g]? = _
     rw [Array.getElem?_eq_getElem (by rw [Array.size_modify]; exact hlt), Array.getElem_modify_self, hk]; rfl
   · rw [Array.toList_setIfInBounds, List.take_set, h7]
theorem owns_parts {w : World} {base : Nat} {e : TypeId} {size n c : Nat} {a : Option Addr} {xs : List Value} (h : w.ownsRow base e size (.slice a n c) n xs) (hn : 0 < n) : ∃ g, a = some ⟨g, 0, none⟩ ∧ base ≤ g ∧ (∃ cur, w.heap[g]? = some (.cells cur e)) ∧ (∀ i, w.frozen? ⟨g, i, none⟩ = false) ∧ (n ≤ c) ∧ ∀ i u, xs[i]? = some u → w.cell? ⟨g, i, none⟩ = some u := by
 rcases h.2 with ⟨h1, h2⟩ | ⟨g', c', cur, h1, h2, h3, h4, h5, h6, h7⟩
 · cases h1; omega
 · cases h1
   refine ⟨g', rfl, h2, ⟨cur, h3⟩, fun i => by simp [World.frozen?, h3], h4, fun i u hu => ?_⟩
   have h8 : (cur.toList.take (n * size))[i]? = some u := by rw [h7]; exact hu
   rw [List.getElem?_take] at h8
   split at h8
   · simp [World.cell?, h3]; simpa using h8
   · cases h8
theorem entCs_split {l : List (Ent × Value)} {i : Nat} (hi : i < l.length) : entCs l = entCs (l.take i) ++ (entC l[i].1 l[i].2 ++ entCs (l.drop (i + 1))) := by
 have h0 : l = l.take i ++ ([(l[i].1, l[i].2)] ++ l.drop (i + 1)) := by
   have h := List.take_append_drop i l
   rw [← List.getElem_cons_drop hi] at h
   exact h.symm
 have h1 := congrArg entCs h0
 rw [entCs_append, entCs_append, entCs_one] at h1
 exact h1
theorem entCs_at {l : List (Ent × Value)} {i j : Nat} (hi : i < l.length) (hj : j < 4) : (entCs l)[i * 4 + j]? = (entC l[i].1 l[i].2)[j]? := by
 have hlen : (entCs (l.take i)).length = i * 4 := by rw [entCs_length, List.length_take_of_le (by omega)]
 have h1 : entCs l = entCs (l.take i) ++ (entC l[i].1 l[i].2 ++ entCs (l.drop (i + 1))) := entCs_split hi
 rw [h1, List.getElem?_append_right (by omega), hlen, Nat.add_sub_cancel_left, List.getElem?_append_left (by simp [entC]; omega)]
theorem entCs_set {l : List (Ent × Value)} {i : Nat} (hi : i < l.length) (v : Value) : entCs (l.set i (l[i].1, v)) = (entCs l).set (i * 4 + 3) v := by
 have hlen : (entCs (l.take i)).length = i * 4 := by rw [entCs_length, List.length_take_of_le (by omega)]
 have h1 : entCs l = entCs (l.take i) ++ (entC l[i].1 l[i].2 ++ entCs (l.drop (i + 1))) := entCs_split hi
 rw [List.set_eq_take_append_cons_drop, if_pos hi, entCs_append, h1, List.set_append_right _ _ (by omega), hlen, Nat.add_sub_cancel_left]
 simp [entCs, entC]
theorem ScrAt.pairs {W : World} {a : Option Addr} {n : Nat} {es : List Ent} (h : ScrAt W a n es) : ∃ l : List (Ent × Value), l.map Prod.fst = es ∧ (∀ x ∈ l, StrAt W x.2 x.1.bytes) ∧ ∀ j u, (entCs l)[j]? = some u → ∃ b o, a = some ⟨b, o, none⟩ ∧ W.cell? ⟨b, o + j, none⟩ = some u := by
 refine ⟨es.zip ((List.range n).map fun i => rowVal W a (i * 4 + 3)), ?_, ?_, ?_⟩
 · rw [List.map_fst_zip]
   simp [h.1]
 · intro x hx
   obtain ⟨i, hi, rfl⟩ := List.getElem_of_mem hx
   have hi2 : i < es.length := by simp at hi; omega
   obtain ⟨b, o, v, sa, sc, e, hb, c0, c1, c2, c3, c4, c5⟩ := h.at_ hi2
   subst e
   simp only [List.getElem_zip, List.getElem_map, List.getElem_range]
   have : rowVal W (some ⟨b, o, none⟩) (i * 4 + 3) = v := by simp [rowVal, ← Nat.add_assoc, c3]
   rw [this]
   exact c4
 · intro j u hu
   have hl : (es.zip ((List.range n).map fun i => rowVal W a (i * 4 + 3))).length = es.length := by simp [h.1]
   have hj : j < es.length * 4 := by
     have := (List.getElem?_eq_some_iff.1 hu).1
     rw [entCs_length, hl] at this
     exact this
   have hi2 : j / 4 < es.length := by omega
   have hjj : j = j / 4 * 4 + j % 4 := by omega
   rw [hjj, entCs_at (by rw [hl]; exact hi2) (by omega)] at hu
   obtain ⟨b, o, v, sa, sc, e, hb, c0, c1, c2, c3, c4, c5⟩ := h.at_ hi2
   subst e
   refine ⟨b, o, rfl, ?_⟩
   have hv : rowVal W (some ⟨b, o, none⟩) (j / 4 * 4 + 3) = v := by simp [rowVal, ← Nat.add_assoc, c3]
   simp only [List.getElem_zip, List.getElem_map, List.getElem_range, hv] at hu
   have hm : j % 4 = 0 ∨ j % 4 = 1 ∨ j % 4 = 2 ∨ j % 4 = 3 := by omega
   rcases hm with hm | hm | hm | hm
   · rw [hm] at hu; simp [entC] at hu; subst hu
     rw [show o + j = o + j / 4 * 4 by omega]; exact c0
   · rw [hm] at hu; simp [entC] at hu; subst hu
     rw [show o + j = o + j / 4 * 4 + 1 by omega]; exact c1
   · rw [hm] at hu; simp [entC] at hu; subst hu
     rw [show o + j = o + j / 4 * 4 + 2 by omega]; exact c2
   · rw [hm] at hu; simp [entC] at hu; subst hu
     rw [show o + j = o + j / 4 * 4 + 3 by omega]; exact c3
theorem entCs_one_ {l : List (Ent × Value)} (h : ∀ x ∈ l, x.2.oneCell' = true) : ∀ u ∈ entCs l, u.oneCell' = true := by
 intro u hu
 obtain ⟨x, hx, hu⟩ := List.mem_flatMap.1 hu
 simp [entC] at hu
 rcases hu with rfl | rfl | rfl | rfl
 · rfl
 · rfl
 · rfl
 · exact h x hx
def ClE (W : World) (n : Nat) (es : List Ent) (e : Ending) (w' : World) : Prop := ∃ v l, e = .returned v ∧ l.map Prod.fst = es ∧ (∀ x ∈ l, StrAt W x.2 x.1.bytes) ∧ w'.ownsRow W.heap.size 38 4 v n (entCs l) ∧ Below W.heap.size W w'
set_option maxHeartbeats 1000000 in
theorem CloneE_any (a : Option Addr) (n c : Nat) (es : List Ent) (W : World) (h : ScrAt W a n es) (hn : n ≤ 100000) :
   Calls Tryz.prog 79 #[.slice a n c] W (ClE W n es) := by
 obtain ⟨l, h1, h2, h3⟩ := h.pairs
 have hll : l.length = n := by have := congrArg List.length h1; simp at this; rw [this, h.1]
 have H1 := Lib.hid h1
 have H2 := Lib.hid h2
 have H3 := Lib.hid h3
 have HLL := Lib.hid hll
 clear h1 h2 h3 hll h
 cases a with
 | none =>
   have h0 : n = 0 := by
     rcases Nat.eq_zero_or_pos n with h | h
     · exact h
     · have hj : 0 < (entCs l).length := by rw [entCs_length, HLL.out]; omega
       obtain ⟨b, o, e, -⟩ := H3.out 0 _ (List.getElem?_eq_getElem hj)
       cases e
   subst h0
   have hl0 : l = [] := List.length_eq_zero_iff.1 HLL.out
   have hnil : (binOp .eql 27 (.slice none 0 c) (.slice none 0 0)).run Tryz.prog W = .ok (.bool true) W := by kernel_rfl
   go_enter Tryz.func79, Tryz.ntmps79
   go_wp2_with fail
   go_ret
   refine ⟨_, l, rfl, H1.out, H2.out, ?_, Below.refl _ _⟩
   rw [hl0]
   exact owns_nil _ _ _ _
 | some ad =>
   obtain ⟨i1, ji, jz0, jz1, jz2⟩ := info_parts infoEnt
   have hnI : (n : Int) ≤ 100000 := by omega
   have HNW : Hid (∀ (w' : World), Below W.heap.size W w' → ∀ (j : Nat) (u : Value), (entCs l)[j]? = some u → w'.cell? (ad.add j) = some u) := by
     intro w' hb j u hu
     obtain ⟨b, o, e, hc⟩ := H3.out j u hu
     cases e
     have hc2 := (hb.cell (p := ⟨b, o + j, none⟩) (World.block_lt_of_cell? W _ hc)).trans hc
     rcases j with _ | j
     · simpa [Addr.add] using hc2
     · simpa [Addr.add] using hc2
   have HONE : Hid (∀ u ∈ entCs l, u.oneCell' = true) := entCs_one_ (fun x hx => (H2.out x hx).one)
   have hnil : (binOp .eql 27 (.slice (some ad) n c) (.slice none 0 0)).run Tryz.prog W = .ok (.bool false) W := by kernel_rfl
   go_enter Tryz.func79, Tryz.ntmps79
   go_wp2_with (at_builtin; refine wpList_append_own _ rfl _ _ 27 rfl W.heap.size 38 i1 (.agg #[.int .u8 0, .int .i64 0, .int .i64 0, .slice none 0 0]) 4 48 Tryz.underlying27 ji jz0 jz1 jz2 rfl (by decide) _ _ _ rfl (World.ownsRow_lit W #[] 0 (Nat.le_refl _) (by unfold maxLen; omega) rfl) ad n c (entCs l) rfl (by rw [entCs_length, HLL.out]) (HNW.out _ ((Below.refl _ _).alloc (Nat.le_refl _) _)) HONE.out (by unfold maxLen; omega) (by omega) (by simp) ?_; intro v' w5 hown' hgrow hat; obtain ⟨a', c', e⟩ := ownsRow_form hown'; subst e; have HOWN := Lib.hid hown'; have HG := Lib.hid hgrow; clear hown' hgrow hat)
   go_ret
   have hm5 : Mod (fun k => some k = (Value.slice (some ⟨W.heap.size, 0, none⟩) 0 0).ownBlock) W w5 := ((Mod.refl _ W).alloc _).trans (Mod.of_grownBy HG.out)
   exact ⟨.slice a' n c', l, by simp, H1.out, H2.out, by simpa using HOWN.out, hm5.below (Nat.le_refl _) (fun k hk e => by simp [Value.ownBlock] at e; omega)⟩
def CpI (W : World) (X n : Nat) (es : List Ent) (v : Value) (k : Nat) (wr : World) : Prop :=
 ∃ L : List (Ent × Value), L.map Prod.fst = es ∧ wr.ownsRow X 38 4 v n (entCs L) ∧ (∀ x ∈ L.take k, FreshB wr X x.2 x.1.bytes) ∧ (∀ x ∈ L.drop k, ∀ W', Below X W W' → StrAt W' x.2 x.1.bytes) ∧ ((L.take k).Pairwise fun x y => ∀ g, x.2.ownBlock = some g → ¬ y.2.ownBlock = some g) ∧ Below X W wr
set_option maxHeartbeats 2000000 in
theorem Copy_any (a : Option Addr) (n c : Nat) (es : List Ent) (W : World) (h : ScrAt W a n es) (hn : n ≤ 100000) (hb : ∀ e ∈ es, e.bytes.size ≤ 140737488351232) :
   Calls Tryz.prog 35 #[.slice a n c] W fun e w' => ∃ v, e = .returned v ∧ OwnScr w' W.heap.size v es ∧ Below W.heap.size W w' := by
 have HC := Lib.hid (CloneE_any a n c es W h hn)
 have HL := Lib.hid h.1
 have HBY := Lib.hid hb
 have hnI : (n : Int) ≤ 100000 := by omega
 clear h hb
 generalize hX : W.heap.size = X at *
 have HX := Lib.hid hX
 clear hX
 go_enter Tryz.func35, Tryz.ntmps35
 go_wp2_with fail
 refine HC.out.mono ?_; rintro e W1 ⟨v, l, rfl, hl1, hl2, hl3, hb1⟩
 rw [HX.out] at hl3 hb1
 obtain ⟨va, vc, rfl⟩ := ownsRow_form hl3
 have HI : Hid (CpI W X n es (.slice va n vc) 0 W1) := ⟨l, hl1, hl3, by simp, fun x hx W' hW' => by
   rw [← HX.out] at hW'
   exact StrAt.below (hl2 x (by simpa using hx)) hW', by simp, hb1⟩
 clear hl1 hl2 hl3 hb1 HC
 go_wp2_with fail
 go_loopw [8, 3] (fun i _ wr => ∃ k : Nat, k ≤ n ∧ i = .int .i64 k ∧ Hid (CpI W X n es (.slice va n vc) k wr)) (fun i _ _ => n - (intOf i).toNat)
 case atStart => exact ⟨0, Nat.zero_le _, rfl, HI⟩
 case round =>
   obtain ⟨k, hk, rfl, HK⟩ := hrel
   by_cases hlt : k < n
   · have hltI : (k : Int) < n := by omega
     obtain ⟨L, h1, h2, h3, h4, h5, h6⟩ := HK.out
     obtain ⟨g, rfl, hgX, ⟨cur, hgc⟩, hgf, -, hgcell⟩ := owns_parts h2 (by omega)
     have hkL : k < L.length := by have := congrArg List.length h1; simp at this; have := HL.out; omega
     have hlow := h4 L[k] (by rw [← List.getElem_cons_drop hkL]; exact List.mem_cons_self)
     have hst : StrAt wr L[k].2 L[k].1.bytes := hlow wr h6
     obtain ⟨sa, sc, hsv⟩ := hst.form
     have c3 : wr.cell? ⟨g, k * 4 + 3, none⟩ = some (.slice sa L[k].1.bytes.size sc) := hgcell _ _ (by rw [entCs_at hkL (by omega), ← hsv]; rfl)
     have hszb : L[k].1.bytes.size ≤ 140737488351232 := HBY.out _ (by rw [← h1]; exact List.mem_map_of_mem (List.getElem_mem hkL))
     rw [hsv] at hst
     have HSC := Lib.hid (sCloneB_any _ L[k].1.bytes wr hst hszb)
     have HK1 := Lib.hid h1
     have HK2 := Lib.hid h2
     have HK3 := Lib.hid h3
     have HK4 := Lib.hid h4
     have HK5 := Lib.hid h5
     have HK6 := Lib.hid h6
     have HGC := Lib.hid hgc
     have HSV := Lib.hid hsv
     have hXw : X ≤ wr.heap.size := by have := h6.size; have := HX.out; omega
     have hgl := (Array.getElem?_eq_some_iff.1 hgc).1
     have HGF := Lib.hid (hgf (k * 4 + 3))
     generalize hz : L[k].1.bytes.size = zn at *
     have HZ := Lib.hid hz
     clear h1 h2 h3 h4 h5 h6 hgc hlow hst hsv hgf hgcell HK hz hszb
     go_wp2_with fail
     refine HSC.out.mono ?_; rintro e W2 ⟨v1, rfl, hf1, hb2⟩
     obtain ⟨fa, fc, rfl⟩ := hf1.str.form
     have hgc2 := (hb2.block _ hgl).trans HGC.out
     have c3' := (hb2.cell (p := ⟨g, k * 4 + 3, none⟩) hgl).trans c3
     have gf' := (hb2.frozen (p := ⟨g, k * 4 + 3, none⟩) hgl).trans HGF.out
     have HB2 := Lib.hid hb2
     have HF1 := Lib.hid hf1
     have HG2 := Lib.hid hgc2
     rw [HZ.out] at *
     clear hb2 hf1 c3 hgc2
     go_wp2_with fail
     have hms := mod_set_ W2 g (k * 4 + 3) (.slice fa zn fc)
     have hmb : Mod (fun _ => False) wr W2 := Mod.of_same HB2.out
     have hbel : Below X W (W2.setCell ⟨g, k * 4 + 3, none⟩ (.slice fa zn fc)) := (HK6.out.trans (HB2.out.mono hXw)).setCell (by simpa using hgX) _
     refine ⟨⟨k + 1, by omega, by simp, L.set k (L[k].1, .slice fa zn fc), ?_, ?_, ?_, ?_, ?_, hbel⟩, by simp [intOf]; omega⟩
     · rw [List.map_set, HK1.out]
       have h9 : es[k]'(by have := HL.out; omega) = L[k].1 := by
         have := HK1.out
         subst this
         simp
       rw [← h9]
       simp
     · rw [entCs_set hkL]
       exact owns_setN (ownsRow_mod HK2.out hmb (by simp)) _ _
     · intro x hx
       rw [List.take_set, List.take_succ_eq_append_getElem hkL] at hx
       rw [List.set_append_right _ _ (by simp; omega)] at hx
       rcases List.mem_append.1 hx with hx | hx
       · obtain ⟨zs, z1, z2⟩ := HK3.out x hx
         exact ⟨zs, owns_keep_at_ (ownsRow_mod z1 hmb (by simp)) HG2.out hms (by decide), z2⟩
       · have hx2 : x = (L[k].1, .slice fa zn fc) := by
           have : (k - (List.take k L).length) = 0 := by simp; omega
           rw [this] at hx
           simpa using hx
         subst hx2
         obtain ⟨zs, z1, z2⟩ := HF1.out.base hXw
         exact ⟨zs, owns_keep_at_ z1 HG2.out hms (by decide), z2⟩
     · intro x hx
       rw [List.drop_set, if_pos (by omega)] at hx
       exact HK4.out x (by
         rw [← List.getElem_cons_drop hkL]
         exact List.mem_cons_of_mem _ hx)
     · rw [List.take_set, List.take_succ_eq_append_getElem hkL, List.set_append_right _ _ (by simp; omega)]
       have : (k - (List.take k L).length) = 0 := by simp; omega
       rw [this, List.pairwise_append]
       refine ⟨HK5.out, by simp, fun x hx y hy q hq hq2 => ?_⟩
       have hy2 : y = (L[k].1, .slice fa zn fc) := by simpa using hy
       subst hy2
       obtain ⟨zs, z1, -⟩ := HK3.out x hx
       obtain ⟨zs2, z2, -⟩ := HF1.out
       have h7 := (z1.lt q hq).2
       have h8 := (z2.lt q hq2).1
       omega
   · obtain rfl : k = n := by omega
     go_wp2_with fail
     go_ret
     obtain ⟨L, h1, h2, h3, h4, h5, h6⟩ := HK.out
     have hL : L.length = k := by have := congrArg List.length h1; simp at this; rw [this, HL.out]
     rw [List.take_of_length_le (by omega)] at h3 h5
     exact ⟨_, rfl, ⟨L, h1, by rw [hL]; exact h2, h3, h5⟩, h6⟩
end View
end Go.Proofs.YtdfmgneicdpjmaaGreat
