import Derived.Test.YtdfmgneicdpjmaaGreatM20
import Derived.Test.YtdfmgneicdpjmaaGreatM19
import Derived.Test.YtdfmgneicdpjmaaGreatM16
/- slices.AppendSeq and Collect over view.chosen. -/
namespace Go.Proofs.YtdfmgneicdpjmaaGreat
open Go.RowKit Go.Shelf
attribute [local go_sem] Oper.semAt_some
set_option linter.unusedVariables false
set_option linter.unusedSimpArgs false
set_option maxRecDepth 100000
namespace View
open Resp

theorem below_mod_ {base : Nat} {W : World} (hb : base ≤ W.heap.size) : ∀ A B, Below base W A → Mod (fun _ => False) A B → Below base W B := fun A B h hm => h.trans (hm.below (Nat.le_trans hb h.size) (by simp))
theorem cell_put_ {W : World} {l : Nat} {o : Obj} (o' : Obj) (hl : W.heap[l]? = some o) (ho : o.isCells = false) {p : Addr} {v : Value} (hc : W.cell? p = some v) : (W.putObj l o').cell? p = some v := by
  by_cases h : p.block = l
  · exfalso
    cases o with
    | cells => cases ho
    | _ => simp [World.cell?, h, hl] at hc
  · exact (mod_put_ W l o').cell h hc
theorem reads_put_ {k : IntKind} {w : World} {v : Value} {zs : List Int} (h : Reads k w v zs) {l : Nat} {o : Obj} (o' : Obj) (hl : w.heap[l]? = some o) (ho : o.isCells = false) : Reads k (w.putObj l o') v zs := by
  rcases h with h | ⟨b, off, cap, rfl, hl2, hc⟩
  · exact .inl h
  · exact .inr ⟨b, off, cap, rfl, hl2, fun i hi => cell_put_ o' hl ho (hc i hi)⟩
theorem ScrAt.put {W : World} {a : Option Addr} {n : Nat} {es : List Ent} (h : ScrAt W a n es) {l : Nat} {o : Obj} (o' : Obj) (hl : W.heap[l]? = some o) (ho : o.isCells = false) : ScrAt (W.putObj l o') a n es :=
  ⟨h.1, fun i e he => by
    obtain ⟨b, o, e1, v, h0, h1, h2, h3, zs, h4, h5⟩ := h.2 i e he
    exact ⟨b, o, e1, v, cell_put_ o' hl ho h0, cell_put_ o' hl ho h1, cell_put_ o' hl ho h2, cell_put_ o' hl ho h3, zs, reads_put_ h4 o' hl ho, h5⟩⟩
theorem news_k_ {W : World} {b : Nat} {cs : Array Value} {T : TypeId} (h : W.heap[b]? = some (.cells cs T)) (j : Nat) (u : Value) (hj : cs.toList[j]? = some u) : W.cell? ((⟨b, 0, none⟩ : Addr).add j) = some u := by
  have : cs[j]? = some u := by simpa using hj
  rcases j with _ | j
  · simp [Addr.add, World.cell?, h, this]
  · simp [Addr.add, World.cell?, h, this]
theorem entCs_one (e : Ent) (v : Value) : entCs [(e, v)] = entC e v := by simp [entCs]
/-- What is known of a list while it grows. -/
def Grown (W : World) (base : Nat) (sv : Value) (l : List (Ent × Value)) : Prop := W.ownsRow base 38 4 sv l.length (entCs l) ∧ (∀ x ∈ l, FreshB W base x.2 x.1.bytes) ∧ l.Pairwise fun x y => ∀ g, x.2.ownBlock = some g → ¬ y.2.ownBlock = some g
theorem Grown.own {W : World} {base : Nat} {sv : Value} {l : List (Ent × Value)} (h : Grown W base sv l) : OwnScr W base sv (l.map (·.1)) := ⟨l, rfl, h⟩
theorem OwnScr.grown {W : World} {base : Nat} {sv : Value} {es : List Ent} (h : OwnScr W base sv es) : ∃ l, l.map (·.1) = es ∧ Grown W base sv l := by
  obtain ⟨l, h1, h2⟩ := h
  exact ⟨l, h1, h2⟩
theorem Grown.modLow {S : Nat → Prop} {W W' : World} {base : Nat} {sv : Value} {l : List (Ent × Value)} (h : Grown W base sv l) (hm : Mod S W W') (hS : ∀ g, ¬ S g) : Grown W' base sv l :=
  ⟨ownsRow_mod h.1 hm (fun g _ => hS g), fun x hx => (h.2.1 x hx).mod hm (fun g _ => hS g), h.2.2⟩
theorem Grown.keep_at {W W' : World} {base : Nat} {v : Value} {l : List (Ent × Value)} (h : Grown W base v l) {B : Nat} {cs : Array Value} {t : TypeId} {fr : Nat × Nat} (hB : W.heap[B]? = some (.cells cs t fr)) (hm : Mod (fun g => g = B) W W') (ht : ¬ 38 = t) (ht2 : ¬ 5 = t) : Grown W' base v l := by
  obtain ⟨h2, h3, h4⟩ := h
  refine ⟨owns_keep_at_ h2 hB hm ht, fun x hx => ?_, h4⟩
  obtain ⟨zs, h5, h6⟩ := h3 x hx
  exact ⟨zs, owns_keep_at_ h5 hB hm ht2, h6⟩
theorem Grown.put {W : World} {base : Nat} {v : Value} {l : List (Ent × Value)} (h : Grown W base v l) {q : Nat} {o : Obj} (o' : Obj) (hl : W.heap[q]? = some o) (ho : o.isCells = false) : Grown (W.putObj q o') base v l := by
  obtain ⟨h2, h3, h4⟩ := h
  refine ⟨ownsRow_put_ h2 o' hl ho, fun x hx => ?_, h4⟩
  obtain ⟨zs, h5, h6⟩ := h3 x hx
  exact ⟨zs, ownsRow_put_ h5 o' hl ho, h6⟩
theorem Grown.push {W W3 : World} {base : Nat} {sv v' v : Value} {l : List (Ent × Value)} {e : Ent} (h : Grown W base sv l) (hv : FreshB W base v e.bytes) (hd : ∀ x ∈ l, ∀ g, x.2.ownBlock = some g → ¬ v.ownBlock = some g)
    (ho : W3.ownsRow base 38 4 v' (l.length + 1) (entCs l ++ entC e v)) (hm : Mod (fun k => some k = sv.ownBlock) W W3) : Grown W3 base v' (l ++ [(e, v)]) := by
  refine ⟨by simpa [entCs_append, entCs_one] using ho, fun x hx => ?_, ?_⟩
  · rcases List.mem_append.1 hx with hx | hx
    · obtain ⟨zs, h5, h6⟩ := h.2.1 x hx
      exact ⟨zs, owns_keep_ h5 h.1 hm (by decide), h6⟩
    · obtain rfl := List.mem_singleton.1 hx
      obtain ⟨zs, h5, h6⟩ := hv
      exact ⟨zs, owns_keep_ h5 h.1 hm (by decide), h6⟩
  · rw [List.pairwise_append]
    refine ⟨h.2.2, List.pairwise_singleton _ _, fun x hx y hy => ?_⟩
    obtain rfl := List.mem_singleton.1 hy
    exact hd x hx
def AqI (W : World) (base S : Nat) (es0 ef : List Ent) (k : Nat) (A : World) : Prop :=
  ∃ sv l, A.heap[S]? = some (.cells #[sv] 27) ∧ l.map (·.1) = es0 ++ ef.take k ∧ Grown A base sv l ∧ Mod (fun g => base ≤ g) W A ∧ S < A.heap.size
theorem AqI.mod {W : World} {base S : Nat} {es0 ef : List Ent} {k : Nat} {A B : World} (h : AqI W base S es0 ef k A) (hm : Mod (fun _ => False) A B) : AqI W base S es0 ef k B := by
  obtain ⟨sv, l, h1, h2, h3, h4, h5⟩ := h
  exact ⟨sv, l, hm.heap h1 (by simp), h2, h3.modLow hm (by simp), h4.trans (hm.mono (by simp)), Nat.lt_of_lt_of_le h5 hm.size⟩
theorem AqI.put {W : World} {base S : Nat} {es0 ef : List Ent} {k : Nat} {A : World} (h : AqI W base S es0 ef k A) {q : Nat} {o : Obj} (o' : Obj) (hl : A.heap[q]? = some o) (ho : o.isCells = false) (hq : base ≤ q) : AqI W base S es0 ef k (A.putObj q o') := by
  obtain ⟨sv, l, h1, h2, h3, h4, h5⟩ := h
  have hne : ¬ S = q := fun e => by rw [← e, h1] at hl; cases hl; cases ho
  exact ⟨sv, l, (mod_put_ A q o').heap h1 hne, h2, h3.put o' hl ho, h4.putObj (.inr hq) o', Nat.lt_of_lt_of_le h5 (mod_put_ A q o').size⟩
def AqAs (W : World) (base S : Nat) (es0 ef : List Ent) (F : Nat → Value → Act) (C : World → Prop) (k : Nat) (a' : Act) (A : World) : Prop :=
  ∃ e v E sv l, ef[k]? = some e ∧ a' = F E (entV e v) ∧ A.heap[E]? = some (.cells #[.int .u8 e.kind, .int .i64 e.slot, .int .i64 e.n, v] 38) ∧ FreshB A base v e.bytes ∧ A.heap[S]? = some (.cells #[sv] 27) ∧ l.map (·.1) = es0 ++ ef.take k ∧ Grown A base sv l ∧ (∀ x ∈ l, ∀ g, x.2.ownBlock = some g → ¬ v.ownBlock = some g) ∧ (¬ some E = sv.ownBlock) ∧ Mod (fun g => base ≤ g) W A ∧ S < A.heap.size ∧ C A
set_option maxHeartbeats 4000000 in
theorem AppendSeq_any (sv : Value) (es0 : List Ent) (base : Nat) (a : Option Addr) (n c : Nat) (iv : Value) (es : List Ent) (p : Ent → Bool) (bl bi : Nat) (hb : ∀ e ∈ es, e.bytes.size ≤ 140737488351232) (hn : n ≤ maxLen) (W : World) (hI : IsAt iv p (Below base W))
    (hs : OwnScr W base sv es0) (hbase : base ≤ W.heap.size) (hst : W.heap[bl]? = some (.cells #[.slice a n c] 27) ∧ W.heap[bi]? = some (.cells #[iv] 117)) (hdat : ∀ w', Below base W w' → ScrAt w' a n es) (hlen : es0.length + es.length ≤ 100000) :
    Calls Tryz.prog 68 #[sv, .func (.func 101) #[] #[.pointer (some ⟨bl, 0, none⟩), .pointer (some ⟨bi, 0, none⟩)]] W fun e w' => ∃ v, e = .returned v ∧ OwnScr w' base v (es0 ++ es.filter p) ∧ Mod (fun g => base ≤ g) W w' := by
  obtain ⟨i1, hi, hz0, hz1, hz2⟩ := info_parts infoEnt
  refine (callsIn_wide (n := 8)).1 ?_
  refine callsIn_of_wp_marks Tryz.func68 rfl trivial ?_ rfl
  simp only [Tryz.ntmps68, List.size_toArray, List.length_cons, List.length_nil, Nat.reduceAdd, Nat.reduceSub, Array.replicate_succ, Array.replicate_zero, List.push_toArray, List.append_toArray, List.nil_append, List.cons_append]
  refine wpIn_wide.2 ?_
  obtain ⟨sa, sc, rfl⟩ := hs.form
  have HI := Lib.hid hI
  have HBY := Lib.hid hb
  have HS := Lib.hid hs
  have HST := Lib.hid hst
  have HD := Lib.hid hdat
  have HBL : Hid (bl < W.heap.size ∧ bi < W.heap.size) := ⟨(Array.getElem?_eq_some_iff.1 hst.1).1, (Array.getElem?_eq_some_iff.1 hst.2).1⟩
  clear hI hb hs hst hdat
  go_wp2_with fail
  have hm1 : Mod (fun _ => False) W (W.alloc (.cells #[.slice sa es0.length sc] 27)) := (Mod.refl _ _).alloc _
  have hS := World.alloc_heap_new W (.cells #[.slice sa es0.length sc] 27)
  have hsz : (W.alloc (.cells #[.slice sa es0.length sc] 27)).heap.size = W.heap.size + 1 := by simp
  generalize W.alloc (.cells #[.slice sa es0.length sc] 27) = W1 at *
  have HST1 : Hid (ChSt a n c iv es bl bi (Below base W) W1) := by
    have h2 : Below base W W1 := (hm1.mono (T := fun g => base ≤ g) (by simp)).below (by omega) (fun k hk h => by omega)
    have h1 := HD.out W1 h2
    exact ⟨hm1.heap HST.out.1 (by simp), hm1.heap HST.out.2 (by simp), h1, h2⟩
  have HI0 : Hid (AqI W base W.heap.size es0 (es.filter p) 0 W1) := by
    obtain ⟨l, h1, h2⟩ := HS.out.grown
    exact ⟨_, l, hS, by simpa using h1, h2.modLow hm1 (by simp), hm1.mono (by simp), by omega⟩
  have HSZ := Lib.hid hsz
  have HM1 := Lib.hid hm1
  clear hm1 hS hsz
  refine (wpIn_wide (n := 8)).1 ?_
  refine wpIn_rangeFunc_st3 rfl (by omega) (gf := 101) (lb := #[.pointer (some ⟨bl, 0, none⟩), .pointer (some ⟨bi, 0, none⟩)]) rfl trivial (enters_of Tryz.func101 (by kernel_rfl) rfl) (fun _ => rfl)
    (chosen1_fr 7 (by omega) a n c iv es p bl bi (Below base W) (below_mod_ hbase) HI.out HBY.out hn)
    (fun k hk => hk.elim)
    (fun A' hA => HST1.out.mod (below_mod_ hbase) ((Mod.of_below hA).mono (fun k hk h => by omega)))
    (fun k A' l o1 o' hl hlo ho hS => ⟨(mod_put_ A' l o').heap hS.1 (by have := HBL.out; have := HSZ.out; omega), (mod_put_ A' l o').heap hS.2.1 (by have := HBL.out; have := HSZ.out; omega), hS.2.2.1.put _ hlo ho, hS.2.2.2.trans ((mod_put_ A' l o').below (Nat.le_trans hbase (by have := HSZ.out; have := hS.2.2.2.size; omega)) (fun q hq e => by have := HSZ.out; omega))⟩)
    (AqI W base W.heap.size es0 (es.filter p))
    (fun k A' A'' hI' hm => hI'.mod hm)
    (fun k A' l o1 o' hl hlo ho hI' => hI'.put _ hlo ho (by have := HSZ.out; omega))
    HI0.out
    (AqAs W base W.heap.size es0 (es.filter p) (fun E x => { tmps := #[.slice sa es0.length sc, .func (.func 101) #[] #[.pointer (some ⟨bl, 0, none⟩), .pointer (some ⟨bi, 0, none⟩)], .pointer (some ⟨W.heap.size, 0, none⟩), undef, .slice none 0 0, .pointer (some ⟨E, 0, none⟩), .func (.func 101) #[] #[.pointer (some ⟨bl, 0, none⟩), .pointer (some ⟨bi, 0, none⟩)], x, undef, undef, undef, undef, undef], defers := [] }) (ChSt a n c iv es bl bi (Below base W)))
    (fun k a' A' l o1 o' hl hlo ho hA => by
      obtain ⟨e, v, E, sv, ll, h1, h2, h3, h4, h5, h6, h7, h8, h9, h10, h11, h12⟩ := hA
      have hne : ∀ {q : Nat} {cs : Array Value} {t : TypeId}, A'.heap[q]? = some (.cells cs t) → ¬ q = l := fun hq e => by
        rw [e, hlo] at hq; cases hq; cases ho
      have hm := mod_put_ A' l o'
      have hlb : base ≤ l := by have := HSZ.out; omega
      obtain ⟨zs, z1, z2⟩ := h4
      exact ⟨e, v, E, sv, ll, h1, h2, hm.heap h3 (hne h3), ⟨zs, ownsRow_put_ z1 o' hlo ho, z2⟩, hm.heap h5 (hne h5), h6, h7.put o' hlo ho, h8, h9, h10.putObj (.inr hlb) o', Nat.lt_of_lt_of_le h11 hm.size, ⟨hm.heap h12.1 (hne h12.1), hm.heap h12.2.1 (hne h12.2.1), h12.2.2.1.put _ hlo ho, h12.2.2.2.trans (hm.below (Nat.le_trans hbase h10.size) (fun q hq e => by omega))⟩⟩)
    ?assign ?body ?done
  case assign =>
    intro l k x W0 Wc K hk hsz hI' hm0 hY hK
    obtain ⟨e, v, he, rfl, hf, hch⟩ := hY
    obtain ⟨sv, ll, i1, i2, i3, i4, i5⟩ := hI'
    simp only [entV]
    obtain ⟨xa, xc, rfl⟩ := hf.str.form
    have hma : Mod (fun _ => False) Wc (Wc.alloc (.cells #[.int .u8 e.kind, .int .i64 e.slot, .int .i64 e.n, .slice xa e.bytes.size xc] 38)) := (Mod.refl _ _).alloc _
    have hmt := hm0.trans hma
    have has : AqAs W base W.heap.size es0 (es.filter p) (fun E x => { tmps := #[.slice sa es0.length sc, .func (.func 101) #[] #[.pointer (some ⟨bl, 0, none⟩), .pointer (some ⟨bi, 0, none⟩)], .pointer (some ⟨W.heap.size, 0, none⟩), undef, .slice none 0 0, .pointer (some ⟨E, 0, none⟩), .func (.func 101) #[] #[.pointer (some ⟨bl, 0, none⟩), .pointer (some ⟨bi, 0, none⟩)], x, undef, undef, undef, undef, undef], defers := [] }) (ChSt a n c iv es bl bi (Below base W)) k { tmps := #[.slice sa es0.length sc, .func (.func 101) #[] #[.pointer (some ⟨bl, 0, none⟩), .pointer (some ⟨bi, 0, none⟩)], .pointer (some ⟨W.heap.size, 0, none⟩), undef, .slice none 0 0, .pointer (some ⟨Wc.heap.size, 0, none⟩), .func (.func 101) #[] #[.pointer (some ⟨bl, 0, none⟩), .pointer (some ⟨bi, 0, none⟩)], .agg #[.int .u8 e.kind, .int .i64 e.slot, .int .i64 e.n, .slice xa e.bytes.size xc], undef, undef, undef, undef, undef], defers := [] } (Wc.alloc (.cells #[.int .u8 e.kind, .int .i64 e.slot, .int .i64 e.n, .slice xa e.bytes.size xc] 38)) := by
      have hlt : ∀ g, sv.ownBlock = some g → g < W0.heap.size := fun g hg => (i3.1.lt g hg).2
      have hb0 : base ≤ W0.heap.size := by have := HSZ.out; omega
      refine ⟨e, .slice xa e.bytes.size xc, Wc.heap.size, sv, ll, he, rfl, World.alloc_heap_new _ _, (hf.mod hma (by simp)).base hb0, hmt.heap i1 (by simp), i2, i3.modLow hmt (by simp), fun y hy g hg hv => ?_, fun e => ?_, i4.trans (hmt.mono (by simp)), Nat.lt_of_lt_of_le i5 hmt.size, hch.mod (below_mod_ hbase) hma⟩
      · obtain ⟨zs, z1, -⟩ := i3.2.1 y hy
        obtain ⟨zs2, z2, -⟩ := hf
        have h1 := (z1.lt g hg).2
        have h2 := (z2.lt g hv).1
        omega
      · have h1 := hlt _ e.symm
        have h2 := hm0.size
        omega
    have hkf : KeepsFrom W1.heap.size Wc (Wc.alloc (.cells #[.int .u8 e.kind, .int .i64 e.slot, .int .i64 e.n, .slice xa e.bytes.size xc] 38)) := keepsFrom_mod_ hma (fun q o1 _ h => h.elim)
    have HAS := Lib.hid has
    have HKF := Lib.hid hkf
    clear has hkf hma hmt hf hch i1 i2 i3 i4 i5 he
    gi_wp2
    exact hK _ _ HKF.out HAS.out
  case body =>
    intro l k a' Wc hk hA
    obtain ⟨e, v, E, sv, ll, he, rfl, hE, hf, hSv, hll, hgr, hdis, hEo, hmW, hSlt, hch⟩ := hA
    simp only [entV]
    obtain ⟨xa, xc, rfl⟩ := hf.str.form
    obtain ⟨va, vc, rfl⟩ := ownsRow_form hgr.1
    obtain ⟨p0, p1, p2, p3, -⟩ := quad_cells_ hE
    have q0 := cell_of_heap_ hSv
    have qf : Wc.frozen? ⟨W.heap.size, 0, none⟩ = false := by simp [World.frozen?, hSv]
    have HE := Lib.hid hE
    have HF := Lib.hid hf
    have HSV := Lib.hid hSv
    have HLL := Lib.hid hll
    have HGR := Lib.hid hgr
    have HDIS := Lib.hid hdis
    have HMW := Lib.hid hmW
    have HCH := Lib.hid hch
    have HEE := Lib.hid he
    have hle : ll.length ≤ 100000 := by
      have := congrArg List.length hll
      simp only [List.length_map, List.length_append] at this
      have h2 := List.length_take_le k (es.filter p)
      have h3 := List.length_filter_le p es
      omega
    clear hE hf hSv hll hgr hdis hmW hch he hEo
    have hsz : base ≤ Wc.heap.size := Nat.le_trans hbase HMW.out.size
    gi_wp2_with (gi_at_builtin; refine wpListIn_append_own _ rfl _ _ 27 rfl base 38 i1 (.agg #[.int .u8 0, .int .i64 0, .int .i64 0, .slice none 0 0]) 4 48 Tryz.underlying27 hi hz0 hz1 hz2 rfl (by decide) _ ll.length _ rfl (HGR.out.1.alloc _) ⟨Wc.heap.size, 0, none⟩ 1 1 (entC e (.slice xa e.bytes.size xc)) rfl rfl (news_k_ (World.alloc_heap_new Wc (.cells #[.int .u8 e.kind, .int .i64 e.slot, .int .i64 e.n, .slice xa e.bytes.size xc] 38))) (by simp [entC, Value.oneCell']) (by unfold maxLen; omega) (by omega) (by simp; omega) ?_; intro v' w1 hown' hgrow _; obtain ⟨oa, oc, e1⟩ := owns_form_pos_ hown' (by omega); subst e1; have HOWN := Lib.hid hown'; have hgr' : (Wc.alloc (.cells #[.int .u8 e.kind, .int .i64 e.slot, .int .i64 e.n, .slice xa e.bytes.size xc] 38)).grownBy w1 (Value.slice va ll.length vc).ownBlock := hgrow; have HM1b := Lib.hid (((Mod.refl _ Wc).alloc _).trans (Mod.of_grownBy hgr')); have HQ1 := Lib.hid (HM1b.out.heap HSV.out (own_other_ HGR.out.1 HSV.out (by decide))); have q1 := cell_of_heap_ HQ1.out; have qf1 : w1.frozen? ⟨W.heap.size, 0, none⟩ = false := (by simp [World.frozen?, HQ1.out]); clear hown' hgrow hgr')
    have hms := mod_set_ w1 W.heap.size 0 (.slice (some ⟨oa, 0, none⟩) (ll.length + 1) oc)
    have hmt : Mod (fun q => some q = (Value.slice va ll.length vc).ownBlock ∨ q = W.heap.size) Wc (w1.setCell ⟨W.heap.size, 0, none⟩ (.slice (some ⟨oa, 0, none⟩) (ll.length + 1) oc)) := (HM1b.out.mono (fun _ _ h => .inl h)).trans (hms.mono (fun _ _ h => .inr h))
    have hge : ∀ q, some q = (Value.slice va ll.length vc).ownBlock → base ≤ q := fun q h => ownBlock_ge_ HGR.out.1 h.symm
    have hmW2 : Mod (fun g => base ≤ g) W (w1.setCell ⟨W.heap.size, 0, none⟩ (.slice (some ⟨oa, 0, none⟩) (ll.length + 1) oc)) := HMW.out.trans (hmt.mono (fun q _ h => by
      rcases h with h | h
      · exact hge q h
      · omega))
    have hbW2 : Below base W (w1.setCell ⟨W.heap.size, 0, none⟩ (.slice (some ⟨oa, 0, none⟩) (ll.length + 1) oc)) := hmW2.below hbase (fun q hq h => by omega)
    have hw := HSZ.out
    have hbl := HBL.out
    refine ⟨keepsFrom_mod_ hmt ?_, ⟨.slice (some ⟨oa, 0, none⟩) (ll.length + 1) oc, ll ++ [(e, .slice xa e.bytes.size xc)], ?_, ?_, ?_, hmW2, Nat.lt_of_lt_of_le hSlt hmt.size⟩, hmt.heap HCH.out.1 ?_, hmt.heap HCH.out.2.1 ?_, HD.out _ hbW2, hbW2⟩
    · rintro q o1 hq (h | h) ho
      · exact own_isCells_ HGR.out.1 h ho
      · omega
    · have := heap_set_ HQ1.out 0 (.slice (some ⟨oa, 0, none⟩) (ll.length + 1) oc)
      simpa using this
    · rw [List.map_append, HLL.out, List.take_add_one, HEE.out]
      simp
    · exact (HGR.out.push HF.out HDIS.out HOWN.out HM1b.out).keep_at HQ1.out hms (by decide) (by decide)
    · rintro (h | h)
      · exact own_other_ HGR.out.1 HCH.out.1 (by decide) h
      · omega
    · rintro (h | h)
      · exact own_other_ HGR.out.1 HCH.out.2.1 (by decide) h
      · omega
  case done =>
    intro D Wc hD hI' hS hK
    obtain ⟨sv, ll, i1, i2, i3, i4, i5⟩ := hI'
    rw [List.take_of_length_le (Nat.le_refl _)] at i2
    obtain ⟨va, vc, rfl⟩ := ownsRow_form i3.1
    have q0 := cell_of_heap_ i1
    have H2 := Lib.hid i2
    have H3 := Lib.hid i3
    have H4 := Lib.hid i4
    have HK := Lib.hid hK
    clear i1 i2 i3 i4 hS hK
    simp only [Exit.inBlock, Exit.then]
    go_wp2_with fail
    refine ⟨by simp, .inl ⟨_, _, rfl, run_takeDeferred HK.out, ?_⟩⟩
    refine ⟨_, results_tmp rfl _ _ _, _, rfl, ?_, H4.out.putObj (.inr (by have := HSZ.out; omega)) _⟩
    rw [← H2.out]
    exact (H3.out.own).put _ HK.out rfl
end View
end Go.Proofs.YtdfmgneicdpjmaaGreat

/- slices.Collect over an iterator of fields. -/
namespace Go.Proofs.YtdfmgneicdpjmaaGreat
open Go.RowKit Go.Shelf
attribute [local go_sem] Oper.semAt_some
set_option linter.unusedVariables false
set_option linter.unusedSimpArgs false
set_option maxRecDepth 100000
namespace Eng
open Resp App View

theorem TB.put {W : World} {v : Value} {zs : List Int} (h : TB W v zs) {l : Nat} {o : Obj} (o' : Obj) (hl : W.heap[l]? = some o) (ho : o.isCells = false) : TB (W.putObj l o') v zs := by
  refine ⟨reads_put_ h.1 o' hl ho, fun g hg => ?_⟩
  obtain ⟨cs, fr, e⟩ := h.2 g hg
  exact ⟨cs, fr, (mod_put_ W l o').heap e (fun e2 => by rw [e2, hl] at e; cases e; cases ho)⟩
/-- A list of fields in a row of its own; what their bytes are can be read. -/
def FTB (W : World) (base : Nat) (v : Value) (fs : List F) : Prop := W.ownsRow base 141 2 v fs.length (fCells fs) ∧ ∀ f ∈ fs, TB W f.2.1 f.2.2
theorem FTB.mod {W W' : World} {base : Nat} {v : Value} {fs : List F} (h : FTB W base v fs) (hm : Mod (fun _ => False) W W') : FTB W' base v fs :=
  ⟨ownsRow_mod h.1 hm (fun _ _ h => h), fun f hf => (h.2 f hf).mod hm⟩
theorem FTB.below {W W' : World} {base : Nat} {v : Value} {fs : List F} (h : FTB W base v fs) (hb : Below W.heap.size W W') : FTB W' base v fs := h.mod (Mod.of_same hb)
theorem FTB.put {W : World} {base : Nat} {v : Value} {fs : List F} (h : FTB W base v fs) {l : Nat} {o : Obj} (o' : Obj) (hl : W.heap[l]? = some o) (ho : o.isCells = false) : FTB (W.putObj l o') base v fs :=
  ⟨ownsRow_put_ h.1 o' hl ho, fun f hf => (h.2 f hf).put o' hl ho⟩
theorem ne_type_ {W : World} {B g : Nat} {cs cs2 : Array Value} {t t2 : TypeId} {fr fr2 : Nat × Nat} (hB : W.heap[B]? = some (.cells cs t fr)) (hg : W.heap[g]? = some (.cells cs2 t2 fr2)) (ht : ¬ t2 = t) : ¬ g = B := by
  rintro rfl
  rw [hB] at hg
  have := Option.some.inj hg
  injection this with _ h2
  exact ht h2.symm
theorem FTB.keep_at {W W' : World} {base : Nat} {v : Value} {fs : List F} (h : FTB W base v fs) {B : Nat} {cs : Array Value} {t : TypeId} {fr : Nat × Nat} (hB : W.heap[B]? = some (.cells cs t fr)) (hm : Mod (fun g => g = B) W W') (ht : ¬ 141 = t) (ht2 : ¬ 5 = t) : FTB W' base v fs :=
  ⟨owns_keep_at_ h.1 hB hm ht, fun f hf => (h.2 f hf).keep hm (fun g cs fr hg => ne_type_ hB hg ht2)⟩
theorem TB.row {W W' : World} {v : Value} {zs : List Int} (h : TB W v zs) {base : Nat} {sv : Value} {n : Nat} {xs : List Value} (ho : W.ownsRow base 141 2 sv n xs) (hm : Mod (fun k => some k = sv.ownBlock) W W') : TB W' v zs :=
  h.keep hm (fun g cs fr hg => own_other_ ho hg (by decide))
theorem fCells_append (a b : List F) : fCells (a ++ b) = fCells a ++ fCells b := by simp [fCells]
theorem FTB.push {W W3 : World} {base : Nat} {sv v' v : Value} {l : List F} {t : Int} {bs : List Int} (h : FTB W base sv l) (hv : TB W v bs)
    (ho : W3.ownsRow base 141 2 v' (l.length + 1) (fCells l ++ [.int .i64 t, v])) (hm : Mod (fun k => some k = sv.ownBlock) W W3) : FTB W3 base v' (l ++ [(t, v, bs)]) := by
  refine ⟨by rw [fCells_append]; simpa [fCells] using ho, fun f hf => ?_⟩
  rcases List.mem_append.1 hf with hf | hf
  · exact (h.2 f hf).row h.1 hm
  · obtain rfl := List.mem_singleton.1 hf
    exact hv.row h.1 hm
theorem FTB.reads {W : World} {base : Nat} {v : Value} {fs : List F} (h : FTB W base v fs) : ReadsFields W v fs := by
  obtain ⟨⟨hl, h⟩, hf⟩ := h
  rcases h with ⟨rfl, hn⟩ | ⟨g, cap, cur, rfl, hb, hg, h1, h2, h3, h4⟩
  · exact .inl ⟨none, 0, rfl, List.length_eq_zero_iff.1 hn⟩
  · refine .inr ⟨g, cap, rfl, fun i hi => ?_⟩
    obtain ⟨c0, c1⟩ := fCells_at fs i hi
    rw [← h4] at c0 c1
    rw [List.getElem?_take, if_pos (by omega)] at c0 c1
    refine ⟨?_, ?_, ?_⟩
    · simp [World.cell?, hg]; simpa using c0
    · simp [World.cell?, hg]; simpa using c1
    · rw [List.getElem?_eq_getElem hi, Option.getD_some]
      exact (hf _ (List.getElem_mem hi)).1
/-- The tags and the bytes of fields. -/
def tbs (l : List F) : List (Int × List Int) := l.map fun f => (f.1, f.2.2)
theorem tbs_length (l : List F) : (tbs l).length = l.length := by simp [tbs]
def ClI (W : World) (S : Nat) (ns : List (Int × List Int)) (k : Nat) (A : World) : Prop :=
  ∃ sv l, A.heap[S]? = some (.cells #[sv] 137) ∧ tbs l = ns.take k ∧ FTB A W.heap.size sv l ∧ Below W.heap.size W A ∧ S < A.heap.size
theorem ClI.mod {W : World} {S : Nat} {ns : List (Int × List Int)} {k : Nat} {A B : World} (h : ClI W S ns k A) (hm : Mod (fun _ => False) A B) : ClI W S ns k B := by
  obtain ⟨sv, l, h1, h2, h3, h4, h5⟩ := h
  exact ⟨sv, l, hm.heap h1 (fun h => h), h2, h3.mod hm, below_mod_ (Nat.le_refl _) _ _ h4 hm, Nat.lt_of_lt_of_le h5 hm.size⟩
theorem ClI.put {W : World} {S : Nat} {ns : List (Int × List Int)} {k : Nat} {A : World} (h : ClI W S ns k A) {q : Nat} {o : Obj} (o' : Obj) (hl : A.heap[q]? = some o) (ho : o.isCells = false) (hq : W.heap.size ≤ q) : ClI W S ns k (A.putObj q o') := by
  obtain ⟨sv, l, h1, h2, h3, h4, h5⟩ := h
  have hne : ¬ S = q := fun e => by rw [← e, h1] at hl; cases hl; cases ho
  exact ⟨sv, l, (mod_put_ A q o').heap h1 hne, h2, h3.put o' hl ho, h4.trans ((mod_put_ A q o').below h4.size (fun g hg e => by omega)), Nat.lt_of_lt_of_le h5 (mod_put_ A q o').size⟩
def ClAs (W : World) (S : Nat) (ns : List (Int × List Int)) (F : Nat → Value → Act) (k : Nat) (a' : Act) (A : World) : Prop :=
  ∃ t bs v E sv l, ns[k]? = some (t, bs) ∧ a' = F E (.agg #[.int .i64 t, v]) ∧ A.heap[E]? = some (.cells #[.int .i64 t, v] 141) ∧ TB A v bs ∧ A.heap[S]? = some (.cells #[sv] 137) ∧ tbs l = ns.take k ∧ FTB A W.heap.size sv l ∧ (¬ some E = sv.ownBlock) ∧ Below W.heap.size W A ∧ S < A.heap.size
set_option maxHeartbeats 4000000 in
theorem AppendSeqF (gf : Nat) (lb : Array Value) (eg : ∀ args w, (callFunc gf args).run Tryz.prog w = .ok (.enter gf args) w) (ns : List (Int × List Int)) (hlen : ns.length ≤ 100000) (Ya : Nat → Value → World → World → Prop) (W : World)
    (hYa : ∀ k x W0 A, Ya k x W0 A → ∃ t bs v, ns[k]? = some (t, bs) ∧ x = .agg #[.int .i64 t, v] ∧ TB A v bs)
    (hseq : SeqFr Fence.wide 7 Tryz.prog gf lb (fun x : Value => #[x]) (fun _ => False) (fun _ => Below W.heap.size W) Ya ns.length) :
    Calls Tryz.prog 198 #[.slice none 0 0, .func (.func gf) #[] lb] W fun e w' => ∃ v l, e = .returned v ∧ tbs l = ns ∧ FTB w' W.heap.size v l ∧ Below W.heap.size W w' := by
  obtain ⟨i1, hi, hz0, hz1, hz2⟩ := info_parts infoField2
  refine (callsIn_wide (n := 8)).1 ?_
  refine callsIn_of_wp_marks Tryz.func198 rfl trivial ?_ rfl
  simp only [Tryz.ntmps198, List.size_toArray, List.length_cons, List.length_nil, Nat.reduceAdd, Nat.reduceSub, Array.replicate_succ, Array.replicate_zero, List.push_toArray, List.append_toArray, List.nil_append, List.cons_append]
  refine wpIn_wide.2 ?_
  have HEG := Lib.hid eg
  have HYA := Lib.hid hYa
  have HSEQ := Lib.hid hseq
  clear eg hYa hseq
  go_wp2_with fail
  have hm1 : Mod (fun _ => False) W (W.alloc (.cells #[.slice none 0 0] 137)) := (Mod.refl _ _).alloc _
  have hS := World.alloc_heap_new W (.cells #[.slice none 0 0] 137)
  have hsz : (W.alloc (.cells #[.slice none 0 0] 137)).heap.size = W.heap.size + 1 := by show (W.heap.push _).size = _; rw [Array.size_push]
  generalize W.alloc (.cells #[.slice none 0 0] 137) = W1 at *
  have HB1 : Hid (Below W.heap.size W W1) := hm1.below (Nat.le_refl _) (fun _ _ h => h)
  have HI0 : Hid (ClI W W.heap.size ns 0 W1) := ⟨_, [], hS, rfl, ⟨owns_nil _ _ _ _, by simp⟩, HB1.out, by omega⟩
  have HSZ := Lib.hid hsz
  have HM1 := Lib.hid hm1
  clear hm1 hS hsz
  refine (wpIn_wide (n := 8)).1 ?_
  refine wpIn_rangeFunc_st3 rfl (by omega) (gf := gf) (lb := lb) rfl trivial HEG.out (fun _ => rfl)
    HSEQ.out
    (fun k hk => hk.elim)
    (fun A' hA => HB1.out.trans (hA.mono HB1.out.size))
    (fun k A' l o1 o' hl hlo ho hS => hS.trans ((mod_put_ A' l o').below hS.size (fun q hq e => by have := HSZ.out; omega)))
    (ClI W W.heap.size ns)
    (fun k A' A'' hI' hm => hI'.mod hm)
    (fun k A' l o1 o' hl hlo ho hI' => hI'.put _ hlo ho (by have := HSZ.out; omega))
    HI0.out
    (ClAs W W.heap.size ns (fun E x => { tmps := #[.slice none 0 0, .func (.func gf) #[] lb, .pointer (some ⟨W.heap.size, 0, none⟩), undef, .slice none 0 0, .pointer (some ⟨E, 0, none⟩), .func (.func gf) #[] lb, x, undef, undef, undef, undef, undef], defers := [] }))
    (fun k a' A' l o1 o' hl hlo ho hA => by
      obtain ⟨t, bs, v, E, sv, ll, h1, h2, h3, h4, h5, h6, h7, h9, h10, h11⟩ := hA
      have hne : ∀ {q : Nat} {cs : Array Value} {t : TypeId}, A'.heap[q]? = some (.cells cs t) → ¬ q = l := fun hq e => by
        rw [e, hlo] at hq; cases hq; cases ho
      have hm := mod_put_ A' l o'
      have hlb : W.heap.size ≤ l := by have := HSZ.out; omega
      exact ⟨t, bs, v, E, sv, ll, h1, h2, hm.heap h3 (hne h3), h4.put o' hlo ho, hm.heap h5 (hne h5), h6, h7.put o' hlo ho, h9, h10.trans (hm.below h10.size (fun q hq e => by omega)), Nat.lt_of_lt_of_le h11 hm.size⟩)
    ?assign ?body ?done
  case assign =>
    intro l k x W0 Wc K hk hsz hI' hm0 hY hK
    obtain ⟨t, bs, v, he, rfl, hf⟩ := HYA.out _ _ _ _ hY
    obtain ⟨sv, ll, i1, i2, i3, i4, i5⟩ := hI'
    obtain ⟨xa, xc, rfl⟩ := hf.form
    have hma : Mod (fun _ => False) Wc (Wc.alloc (.cells #[.int .i64 t, .slice xa bs.length xc] 141)) := (Mod.refl _ _).alloc _
    have hmt := hm0.trans hma
    have has : ClAs W W.heap.size ns (fun E x => { tmps := #[.slice none 0 0, .func (.func gf) #[] lb, .pointer (some ⟨W.heap.size, 0, none⟩), undef, .slice none 0 0, .pointer (some ⟨E, 0, none⟩), .func (.func gf) #[] lb, x, undef, undef, undef, undef, undef], defers := [] }) k { tmps := #[.slice none 0 0, .func (.func gf) #[] lb, .pointer (some ⟨W.heap.size, 0, none⟩), undef, .slice none 0 0, .pointer (some ⟨Wc.heap.size, 0, none⟩), .func (.func gf) #[] lb, .agg #[.int .i64 t, .slice xa bs.length xc], undef, undef, undef, undef, undef], defers := [] } (Wc.alloc (.cells #[.int .i64 t, .slice xa bs.length xc] 141)) := by
      have hlt : ∀ g, sv.ownBlock = some g → g < W0.heap.size := fun g hg => (i3.1.lt g hg).2
      refine ⟨t, bs, .slice xa bs.length xc, Wc.heap.size, sv, ll, he, rfl, World.alloc_heap_new _ _, hf.mod hma, hmt.heap i1 (fun h => h), i2, i3.mod hmt, fun e => ?_, below_mod_ (Nat.le_refl _) _ _ i4 hmt, Nat.lt_of_lt_of_le i5 hmt.size⟩
      have h1 := hlt _ e.symm
      have h2 := hm0.size
      omega
    have hkf : KeepsFrom W1.heap.size Wc (Wc.alloc (.cells #[.int .i64 t, .slice xa bs.length xc] 141)) := keepsFrom_mod_ hma (fun q o1 _ h => h.elim)
    have HAS := Lib.hid has
    have HKF := Lib.hid hkf
    clear has hkf hma hmt hf i1 i2 i3 i4 i5 he hY
    gi_wp2
    exact hK _ _ HKF.out HAS.out
  case body =>
    intro l k a' Wc hk hA
    obtain ⟨t, bs, v, E, sv, ll, he, rfl, hE, hf, hSv, hll, hgr, hEo, hmW, hSlt⟩ := hA
    obtain ⟨xa, xc, rfl⟩ := hf.form
    obtain ⟨va, vc, rfl⟩ := ownsRow_form hgr.1
    obtain ⟨p0, p1⟩ := fld_cells hE
    have q0 := cell_of_heap_ hSv
    have qf : Wc.frozen? ⟨W.heap.size, 0, none⟩ = false := by simp [World.frozen?, hSv]
    have HE := Lib.hid hE
    have HF := Lib.hid hf
    have HSV := Lib.hid hSv
    have HLL := Lib.hid hll
    have HGR := Lib.hid hgr
    have HMW := Lib.hid hmW
    have HEE := Lib.hid he
    have hle : ll.length ≤ 100000 := by
      have := congrArg List.length hll
      rw [tbs_length] at this
      have h2 := List.length_take_le k ns
      omega
    clear hE hf hSv hll hgr hmW he hEo
    have hsz : W.heap.size ≤ Wc.heap.size := HMW.out.size
    gi_wp2_with (gi_at_builtin; refine wpListIn_append_own _ rfl _ _ 137 rfl W.heap.size 141 i1 (.agg #[.int .i64 0, .slice none 0 0]) 2 32 Tryz.underlying137 hi hz0 hz1 hz2 rfl (by decide) _ ll.length _ rfl (HGR.out.1.alloc _) ⟨Wc.heap.size, 0, none⟩ 1 1 [.int .i64 t, .slice xa bs.length xc] rfl rfl (news_k_ (World.alloc_heap_new Wc (.cells #[.int .i64 t, .slice xa bs.length xc] 141))) (by simp [Value.oneCell']) (by unfold maxLen; omega) (by omega) (by simp; omega) ?_; intro v' w1 hown' hgrow _; obtain ⟨oa, oc, e1⟩ := owns_form_pos_ hown' (by omega); subst e1; have HOWN := Lib.hid hown'; have hgr' : (Wc.alloc (.cells #[.int .i64 t, .slice xa bs.length xc] 141)).grownBy w1 (Value.slice va ll.length vc).ownBlock := hgrow; have HM1b := Lib.hid (((Mod.refl _ Wc).alloc _).trans (Mod.of_grownBy hgr')); have HQ1 := Lib.hid (HM1b.out.heap HSV.out (own_other_ HGR.out.1 HSV.out (by decide))); have q1 := cell_of_heap_ HQ1.out; have qf1 : w1.frozen? ⟨W.heap.size, 0, none⟩ = false := (by simp [World.frozen?, HQ1.out]); clear hown' hgrow hgr')
    have hms := mod_set_ w1 W.heap.size 0 (.slice (some ⟨oa, 0, none⟩) (ll.length + 1) oc)
    have hmt : Mod (fun q => some q = (Value.slice va ll.length vc).ownBlock ∨ q = W.heap.size) Wc (w1.setCell ⟨W.heap.size, 0, none⟩ (.slice (some ⟨oa, 0, none⟩) (ll.length + 1) oc)) := (HM1b.out.mono (fun _ _ h => .inl h)).trans (hms.mono (fun _ _ h => .inr h))
    have hge : ∀ q, some q = (Value.slice va ll.length vc).ownBlock → W.heap.size ≤ q := fun q h => ownBlock_ge_ HGR.out.1 h.symm
    have hbW2 : Below W.heap.size W (w1.setCell ⟨W.heap.size, 0, none⟩ (.slice (some ⟨oa, 0, none⟩) (ll.length + 1) oc)) := HMW.out.trans (hmt.below hsz (fun q hq h => by
      rcases h with h | h
      · have := hge q h; omega
      · omega))
    refine ⟨keepsFrom_mod_ hmt ?_, ⟨.slice (some ⟨oa, 0, none⟩) (ll.length + 1) oc, ll ++ [(t, .slice xa bs.length xc, bs)], ?_, ?_, ?_, hbW2, Nat.lt_of_lt_of_le hSlt hmt.size⟩, hbW2⟩
    · rintro q o1 hq (h | h) ho
      · exact own_isCells_ HGR.out.1 h ho
      · have := HSZ.out; omega
    · have := heap_set_ HQ1.out 0 (.slice (some ⟨oa, 0, none⟩) (ll.length + 1) oc)
      simpa using this
    · have h9 := HLL.out
      unfold tbs at h9 ⊢
      rw [List.map_append, h9, List.take_add_one, HEE.out]
      rfl
    · exact (HGR.out.push HF.out HOWN.out HM1b.out).keep_at HQ1.out hms (by decide) (by decide)
  case done =>
    intro D Wc hD hI' hS hK
    obtain ⟨sv, ll, i1, i2, i3, i4, i5⟩ := hI'
    rw [List.take_of_length_le (Nat.le_refl _)] at i2
    obtain ⟨va, vc, rfl⟩ := ownsRow_form i3.1
    have q0 := cell_of_heap_ i1
    have H2 := Lib.hid i2
    have H3 := Lib.hid i3
    have H4 := Lib.hid i4
    have HK := Lib.hid hK
    clear i1 i2 i3 i4 hS hK
    simp only [Exit.inBlock, Exit.then]
    go_wp2_with fail
    refine ⟨by simp, .inl ⟨_, _, rfl, run_takeDeferred HK.out, ?_⟩⟩
    exact ⟨_, results_tmp rfl _ _ _, _, ll, rfl, H2.out, H3.out.put _ HK.out rfl, H4.out.trans ((mod_put_ Wc D _).below H4.out.size (fun q hq e => by have := HSZ.out; omega))⟩

theorem CollectF (gf : Nat) (lb : Array Value) (eg : ∀ args w, (callFunc gf args).run Tryz.prog w = .ok (.enter gf args) w) (ns : List (Int × List Int)) (hlen : ns.length ≤ 100000) (Ya : Nat → Value → World → World → Prop) (W : World)
    (hYa : ∀ k x W0 A, Ya k x W0 A → ∃ t bs v, ns[k]? = some (t, bs) ∧ x = .agg #[.int .i64 t, v] ∧ TB A v bs)
    (hseq : SeqFr Fence.wide 7 Tryz.prog gf lb (fun x : Value => #[x]) (fun _ => False) (fun _ => Below W.heap.size W) Ya ns.length) :
    Calls Tryz.prog 153 #[.func (.func gf) #[] lb] W fun e w' => ∃ v l, e = .returned v ∧ tbs l = ns ∧ FTB w' W.heap.size v l ∧ Below W.heap.size W w' := by
  have HC := Lib.hid (AppendSeqF gf lb eg ns hlen Ya W hYa hseq)
  clear eg hYa hseq
  go_enter Tryz.func153, Tryz.ntmps153
  go_wp2_with fail
  refine HC.out.mono ?_; rintro e w' ⟨v, l, rfl, hl, ho, hm⟩
  have HL := Lib.hid hl
  have HO := Lib.hid ho
  have HM := Lib.hid hm
  obtain ⟨a, c, rfl⟩ := ownsRow_form ho.1
  clear ho hm hl
  go_wp2_with fail
  go_ret
  exact ⟨_, l, rfl, HL.out, HO.out, HM.out⟩
/-- An iterator whose state is there as long as nothing but S is written. -/
theorem SeqFr.pin {F : Fence} {n : Nat} {P : Program} {gf : Nat} {lb : Array Value} {St : Nat → World → Prop} {Ya : Nat → Value → World → World → Prop} {N : Nat} (W : World) (S : Nat → Prop)
    (h : SeqFr F n P gf lb (fun x : Value => #[x]) (fun _ => False) St Ya N) (hSt : ∀ k A, Mod S W A → St k A) :
    SeqFr F n P gf lb (fun x : Value => #[x]) (fun _ => False) (fun _ => Mod S W) Ya N := by
  intro l J A hS hJ hY h0
  refine (h l (fun k B => J k B ∧ Mod S W B) A (hSt 0 A hS) (fun k B C hb hm => ⟨hJ k B C hb.1 hm, hb.2.trans (hm.mono (fun _ _ h => h.elim))⟩) ?_ ⟨h0, hS⟩).mono ?_
  · intro k x W0 W1 hk hj hm hya
    obtain ⟨fn, tmps, assign, body, hy, hR⟩ := hY k x W0 W1 hk hj.1 hm hya
    refine ⟨fn, tmps, assign, body, hy, hR.mono ?_⟩
    rintro e W' ⟨h1, h2, h3⟩
    exact ⟨h1, ⟨h2, h3⟩, hSt _ _ h3⟩
  · rintro e W' ⟨h1, ⟨h2, h3⟩, h4⟩
    exact ⟨h1, h2, h3⟩
theorem SeqFx.pin {F : Fence} {n : Nat} {P : Program} {gf : Nat} {lb : Array Value} {St : Nat → World → Prop} {Ya : Nat → Value → World → World → Prop} {N : Nat} (W : World) (S : Nat → Prop)
    (h : SeqFx F n P gf lb (fun x : Value => #[x]) (fun _ => False) St Ya N) (hSt : ∀ k A, Mod S W A → St k A) :
    SeqFx F n P gf lb (fun x : Value => #[x]) (fun _ => False) (fun _ => Mod S W) Ya N := by
  intro l J Jx A hS hJ hJx hY h0
  refine (h l (fun k B => J k B ∧ Mod S W B) Jx A (hSt 0 A hS) (fun k B C hb hm => ⟨hJ k B C hb.1 hm, hb.2.trans (hm.mono (fun _ _ h => h.elim))⟩) hJx ?_ ⟨h0, hS⟩).mono ?_
  · intro k x W0 W1 hk hj hm hya
    obtain ⟨fn, tmps, assign, body, hy, hR⟩ := hY k x W0 W1 hk hj.1 hm hya
    refine ⟨fn, tmps, assign, body, hy, hR.mono ?_⟩
    rintro e W' (⟨h1, h2, h3⟩ | ⟨h1, h2⟩)
    · exact .inl ⟨h1, ⟨h2, h3⟩, hSt _ _ h3⟩
    · exact .inr ⟨h1, h2⟩
  · rintro e W' ⟨h1, ⟨⟨h2, h3⟩, h4⟩ | h2⟩
    · exact ⟨h1, .inl ⟨h2, h3⟩⟩
    · exact ⟨h1, .inr h2⟩
theorem mod_below_ {W A : World} : Mod (fun _ => False) W A ↔ Below W.heap.size W A := ⟨fun h => h.below (Nat.le_refl _) (fun _ _ h => h), fun h => Mod.of_same h⟩
end Eng
end Go.Proofs.YtdfmgneicdpjmaaGreat

/- request.Right. -/
namespace Go.Proofs.YtdfmgneicdpjmaaGreat
open Go.RowKit Go.Shelf
attribute [local go_sem] Oper.semAt_some
set_option linter.unusedVariables false
set_option linter.unusedSimpArgs false
set_option maxRecDepth 100000
namespace Eng
open Resp App View

/-- A request of which only the fields with some tags are there. -/
def hadR (r : Rq) (l : List Int) : Rq := ⟨r.kind, if 1 ∈ l then r.what else 0, if 2 ∈ l then r.name else ByteArray.empty, if 3 ∈ l then r.process else 0, if 4 ∈ l then r.handle else 0, if 5 ∈ l then r.holder else 0, if 6 ∈ l then r.rights else 0, if 7 ∈ l then r.time else 0, if 8 ∈ l then r.source else 0, if 9 ∈ l then r.seq else 0, if 10 ∈ l then r.value else 0⟩
def hadZ (zs : List Int) (l : List Int) : List Int := if 11 ∈ l then zs else []
theorem hadR_what (r : Rq) (l : List Int) : hadR r (l ++ [1]) = { hadR r l with what := r.what } := by simp [hadR]
theorem hadR_name (r : Rq) (l : List Int) : hadR r (l ++ [2]) = { hadR r l with name := r.name } := by simp [hadR]
theorem hadR_value (r : Rq) (l : List Int) : hadR r (l ++ [10]) = { hadR r l with value := r.value } := by simp [hadR]
theorem hadR_fed (r : Rq) (l : List Int) : hadR r (l ++ [11]) = hadR r l := by simp [hadR]
theorem hadR_num (r : Rq) (l : List Int) {q : Nat} (h3 : 3 ≤ q) (h9 : q ≤ 9) : hadR r (l ++ [(q : Int)]) = setN (hadR r l) q (getN r q) := by
  have hk : q = 3 ∨ q = 4 ∨ q = 5 ∨ q = 6 ∨ q = 7 ∨ q = 8 ∨ q = 9 := by omega
  rcases hk with rfl | rfl | rfl | rfl | rfl | rfl | rfl <;> simp [hadR, setN, getN]
theorem hadZ_fed (zs l : List Int) : hadZ zs (l ++ [11]) = zs := by simp [hadZ]
theorem hadZ_no (zs l : List Int) {t : Int} (h : ¬ t = 11) : hadZ zs (l ++ [t]) = hadZ zs l := by
  have : ¬ (11 : Int) = t := fun e => h e.symm
  simp [hadZ, this]
/-- A field of a request is one that take takes. -/
def okT (r : Rq) (t : Int) : Prop := t = 1 ∨ t = 2 ∨ t = 10 ∨ t = 11 ∨ 0 ≤ getN r t
instance (r : Rq) (t : Int) : Decidable (okT r t) := by unfold okT; infer_instance
/-- What Right says. -/
def rightR (r : Rq) (zs : List Int) : Bool := match tgL r.kind r.what with
  | none => false
  | some ts => decide (r.name.size ≤ 255) && decide (zs.length ≤ 15000) && ts.all (fun t => decide (okT r t)) && decide (hadR r ts = r) && decide (hadZ zs ts = zs)
theorem tagOk_of {ts : List Int} (h : ∀ t ∈ ts, 1 ≤ t ∧ t ≤ 11) : TagOk ts := by
  intro t ht
  have := h t ht
  by_cases h3 : 3 ≤ t ∧ t ≤ 9
  · exact .inr (.inr (.inr (.inr ⟨t.toNat, by omega, by omega, by omega⟩)))
  · omega
theorem tgL_ok {k w : Int} {ts : List Int} (h : tgL k w = some ts) : TagOk ts ∧ ts.length ≤ 4 := by
  have h1 : ∀ l : List Int, (∀ t ∈ l, 1 ≤ t ∧ t ≤ 11) → l.length ≤ 4 → some l = some ts → TagOk ts ∧ ts.length ≤ 4 := by
    intro l h2 h3 h4
    obtain rfl := Option.some.inj h4
    exact ⟨tagOk_of h2, h3⟩
  unfold tgL at h
  by_cases e1 : k = 1
  · rw [if_pos e1] at h; exact h1 _ (by decide) (by decide) h
  rw [if_neg e1] at h
  by_cases e2 : k = 2
  · rw [if_pos e2] at h; exact h1 _ (by decide) (by decide) h
  rw [if_neg e2] at h
  by_cases e3 : k = 3
  · rw [if_pos e3] at h; exact h1 _ (by decide) (by decide) h
  rw [if_neg e3] at h
  by_cases e4 : k = 4
  · rw [if_pos e4] at h; exact h1 _ (by decide) (by decide) h
  rw [if_neg e4] at h
  by_cases e5 : k = 5
  · rw [if_pos e5] at h; exact h1 _ (by decide) (by decide) h
  rw [if_neg e5] at h
  by_cases e6 : k = 6
  · rw [if_pos e6] at h; exact h1 _ (by decide) (by decide) h
  rw [if_neg e6] at h
  by_cases e7 : k = 7
  · rw [if_pos e7] at h
    unfold askL at h
    by_cases f1 : w = 1
    · rw [if_pos f1] at h; exact h1 _ (by decide) (by decide) h
    rw [if_neg f1] at h
    by_cases f2 : w = 2 ∨ w = 5
    · rw [if_pos f2] at h; exact h1 _ (by decide) (by decide) h
    rw [if_neg f2] at h
    by_cases f3 : w = 3
    · rw [if_pos f3] at h; exact h1 _ (by decide) (by decide) h
    rw [if_neg f3] at h
    by_cases f4 : w = 4
    · rw [if_pos f4] at h; exact h1 _ (by decide) (by decide) h
    rw [if_neg f4] at h
    cases h
  rw [if_neg e7] at h
  by_cases e8 : k = 8
  · rw [if_pos e8] at h; exact h1 _ (by decide) (by decide) h
  rw [if_neg e8] at h
  by_cases e9 : k = 9
  · rw [if_pos e9] at h; exact h1 _ (by decide) (by decide) h
  rw [if_neg e9] at h
  cases h
theorem strOfNums_inj {a b : List Int} (ha : Octets a) (hb : Octets b) (h : strOfNums a = strOfNums b) : a = b := by
  have h1 : (a.map fun n => UInt8.ofNat n.toNat) = b.map fun n => UInt8.ofNat n.toNat := by
    unfold strOfNums at h
    injection h with h
    exact Array.toList_inj.2 h |> fun h => by simpa using h
  have h2 : ∀ l : List Int, Octets l → (l.map fun n => UInt8.ofNat n.toNat).map (fun b => (b.toNat : Int)) = l := by
    intro l hl
    rw [List.map_map]
    conv => rhs; rw [← List.map_id l]
    refine List.map_congr_left (fun z hz => ?_)
    have := hl z hz
    simp
    omega
  rw [← h2 a ha, ← h2 b hb, h1]
theorem right_iff {r : Rq} {zs : List Int} {ts : List Int} (h : tgL r.kind r.what = some ts) (hn : r.name.size ≤ 255) (hz : zs.length ≤ 15000) (ho : Octets zs) (hok : ∀ t ∈ ts, okT r t) {b : Bool}
    (hb : b = true ↔ headE (hadR r ts) r (strOfNums (hadZ zs ts)) (strOfNums zs) ∧ numsE (hadR r ts) r) : rightR r zs = b := by
  have hall : ts.all (fun t => decide (okT r t)) = true := by
    rw [List.all_eq_true]
    intro t ht
    exact decide_eq_true (hok t ht)
  have hE : rightR r zs = true ↔ hadR r ts = r ∧ hadZ zs ts = zs := by
    unfold rightR
    rw [h]
    simp only [hall, decide_eq_true hn, decide_eq_true hz, Bool.true_and, Bool.and_eq_true, decide_eq_true_eq]
  have h2 : (headE (hadR r ts) r (strOfNums (hadZ zs ts)) (strOfNums zs) ∧ numsE (hadR r ts) r) ↔ hadR r ts = r ∧ hadZ zs ts = zs := by
    constructor
    · rintro ⟨⟨e1, e2, e3, e4, e5⟩, hn⟩
      refine ⟨?_, strOfNums_inj ?_ ho e1⟩
      · obtain ⟨g1, g2, g3, g4, g5, g6, g7⟩ := (numsE_iff _ _).1 hn
        generalize hadR r ts = x at *
        cases x
        cases r
        simp_all
      · unfold hadZ
        split
        · exact ho
        · intro z hz; simp at hz
    · rintro ⟨e1, e2⟩
      rw [e1, e2]
      exact ⟨⟨rfl, rfl, rfl, rfl, rfl⟩, fun k _ _ => rfl⟩
  rw [Bool.eq_iff_iff, hE, ← h2, ← hb]
end Eng
end Go.Proofs.YtdfmgneicdpjmaaGreat
