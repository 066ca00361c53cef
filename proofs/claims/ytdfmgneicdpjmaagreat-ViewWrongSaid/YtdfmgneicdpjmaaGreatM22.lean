import Derived.Test.YtdfmgneicdpjmaaGreatM21
/- request.Right: the walk. -/
namespace Go.Proofs.YtdfmgneicdpjmaaGreat
open Go.RowKit Go.Shelf
attribute [local go_sem] Oper.semAt_some
set_option linter.unusedVariables false
set_option linter.unusedSimpArgs false
set_option maxRecDepth 100000
namespace Eng
open Resp App View

structure RqNum (r : Rq) : Prop where
  lo : ∀ t : Int, -9223372036854775808 ≤ getN r t
  hi : ∀ t : Int, getN r t < 9223372036854775808
def RtrP (r : Rq) (zs : List Int) (w : World) (e : Ending) (w' : World) : Prop := e = .returned (.bool (rightR r zs)) ∧ Below w.heap.size w w'
theorem results_cell_bool {fn : Func} {p : Tmp} (h : fn.results = #[.cell p 4]) (tmps : Array Value) (w : World) (g : Nat) (b : Bool)
    (hp : tmps.getD p undef = .pointer (some ⟨g, 0, none⟩)) (hg : w.heap[g]? = some (.cells #[.bool b] 4)) : (results fn tmps).run Tryz.prog w = .ok (.bool b) w := by
  have hp' : tmps[p]?.getD undef = .pointer (some ⟨g, 0, none⟩) := by simpa using hp
  have hc := cell_of_heap_ hg
  simp [results, h, hp', asAddr]
  simp [go_sem, hc]
/-- An end without a mark: the result lies in a block. -/
theorem rt_end {F : Fence} {n : Nat} {fn : Func} {p : Tmp} (h : fn.results = #[.cell p 4]) {a : Act} {w W : World} {g : Nat} {c : Bool} {b : Bool} {r : Rq} {zs : List Int}
    (hd : a.defers = [] ∧ a.tmps.getD p undef = .pointer (some ⟨g, 0, none⟩)) (hg : w.heap[g]? = some (.cells #[.bool c] 4)) (hb : rightR r zs = b) (hB : Below W.heap.size W w) (hgW : W.heap.size ≤ g) :
    bodyPostM F n Tryz.prog fn (RtrP r zs W) .ret a (w.setCell ⟨g, 0, none⟩ (.bool b)) := by
  have hh : (w.setCell ⟨g, 0, none⟩ (.bool b)).heap[g]? = some (.cells #[.bool b] 4) := by
    have := heap_set_ hg 0 (.bool b)
    simpa using this
  show LeavesInM F n Tryz.prog fn a.tmps (RtrP r zs W) a.defers .returning _
  rw [hd.1]
  exact ⟨_, results_cell_bool h _ _ g b hd.2 hh, by rw [hb], hB.setCell (p := ⟨g, 0, none⟩) hgW _⟩
/-- The loop's own state: what is had by now. -/
def RtI (W5 : World) (B : Nat) (r : Rq) (zs ts : List Int) (k : Nat) (A : World) : Prop := ∃ gv, RqAt A B (hadR r (ts.take k)) gv ∧ TB A gv (hadZ zs (ts.take k)) ∧ (∀ t ∈ ts.take k, okT r t) ∧ Mod (fun g => g = B) W5 A
theorem RtI.mod {W5 : World} {B : Nat} {r : Rq} {zs ts : List Int} {k : Nat} {A A' : World} (h : RtI W5 B r zs ts k A) (hm : Mod (fun _ => False) A A') : RtI W5 B r zs ts k A' := by
  obtain ⟨gv, h1, h2, h3, h4⟩ := h
  exact ⟨gv, hm.heap h1 (fun h => h), h2.mod hm, h3, h4.trans (hm.mono (fun _ _ h => h.elim))⟩
theorem RqAt.put {A : World} {B : Nat} {r : Rq} {gv : Value} (h : RqAt A B r gv) {l : Nat} {o : Obj} (o' : Obj) (hlo : A.heap[l]? = some o) (ho : o.isCells = false) : RqAt (A.putObj l o') B r gv :=
  (mod_put_ A l o').heap h (fun e => by have h' : A.heap[B]? = _ := h; rw [e, hlo] at h'; cases h'; cases ho)
theorem RtI.put {W5 : World} {B : Nat} {r : Rq} {zs ts : List Int} {k : Nat} {A : World} (h : RtI W5 B r zs ts k A) {l : Nat} {o : Obj} (o' : Obj) (hl : W5.heap.size ≤ l) (hlo : A.heap[l]? = some o) (ho : o.isCells = false) : RtI W5 B r zs ts k (A.putObj l o') := by
  obtain ⟨gv, h1, h2, h3, h4⟩ := h
  exact ⟨gv, h1.put o' hlo ho, h2.put o' hlo ho, h3, h4.putObj (.inl hl) o'⟩
/-- Where the loop is left. -/
def RtX (W5 : World) (B E : Nat) (r : Rq) (zs : List Int) (c : Code) (A : World) : Prop := c = .ret ∧ rightR r zs = false ∧ A.heap[E]? = some (.cells #[.bool false] 4) ∧ Mod (fun g => g = B ∨ g = E) W5 A
theorem RtX.mod {W5 : World} {B E : Nat} {r : Rq} {zs : List Int} {c : Code} {A A' : World} (h : RtX W5 B E r zs c A) (hm : Mod (fun _ => False) A A') : RtX W5 B E r zs c A' := by
  obtain ⟨h1, h2, h3, h4⟩ := h
  exact ⟨h1, h2, hm.heap h3 (fun h => h), h4.trans (hm.mono (fun _ _ h => h.elim))⟩
theorem RtX.put {W5 : World} {B E : Nat} {r : Rq} {zs : List Int} {c : Code} {A : World} (h : RtX W5 B E r zs c A) {l : Nat} {o : Obj} (o' : Obj) (hl : W5.heap.size ≤ l) (hlo : A.heap[l]? = some o) (ho : o.isCells = false) : RtX W5 B E r zs c (A.putObj l o') := by
  obtain ⟨h1, h2, h3, h4⟩ := h
  exact ⟨h1, h2, (mod_put_ A l o').heap h3 (fun e => by rw [e, hlo] at h3; cases h3; cases ho), h4.putObj (.inl hl) o'⟩
/-- What a round begins with. -/
def RtAs (W5 : World) (B : Nat) (r : Rq) (zs ts : List Int) (F : Nat → Value → Act) (k : Nat) (a' : Act) (A : World) : Prop :=
  ∃ t v E, ts[k]? = some t ∧ a' = F E (.agg #[.int .i64 t, v]) ∧ A.heap[E]? = some (.cells #[.int .i64 t, v] 141) ∧ TB A v (fval r zs t) ∧ RtI W5 B r zs ts k A
theorem RtAs.put {W5 : World} {B : Nat} {r : Rq} {zs ts : List Int} {F : Nat → Value → Act} {k : Nat} {a' : Act} {A : World} (h : RtAs W5 B r zs ts F k a' A) {l : Nat} {o : Obj} (o' : Obj) (hl : W5.heap.size ≤ l) (hlo : A.heap[l]? = some o) (ho : o.isCells = false) : RtAs W5 B r zs ts F k a' (A.putObj l o') := by
  obtain ⟨t, v, E, h1, h2, h3, h4, h5⟩ := h
  exact ⟨t, v, E, h1, h2, (mod_put_ A l o').heap h3 (fun e => by rw [e, hlo] at h3; cases h3; cases ho), h4.put o' hlo ho, h5.put o' hl hlo ho⟩
theorem octets_fval {r : Rq} {zs : List Int} {t : Int} (hr : RqOk r) (ho : Octets zs) : Octets (fval r zs t) := by
  have h1 := hr.what1
  have h0 := hr.what0
  have hf := foldV_bd hr.value0 hr.value1
  unfold fval
  split
  · exact octets_num (by omega)
  split
  · exact octets_bytesL _
  split
  · exact octets_num (by omega)
  split
  · exact ho
  · exact octets_num (by omega)
theorem numBytes_le {x : Nat} (hx : x < 18446744073709551616) : (numBytes x).length ≤ 9 := by
  have h8 := numLen_le 8 x (by simpa using hx)
  unfold numBytes
  split
  · simp
  · simp; omega
theorem len_fval {r : Rq} {zs : List Int} {t : Int} (hr : RqOk r) (hn : r.name.size ≤ 255) (hz : zs.length ≤ 15000) : (fval r zs t).length ≤ 100000 := by
  have h1 := hr.what1
  have h0 := hr.what0
  have hf := foldV_bd hr.value0 hr.value1
  have hN : ∀ x : Nat, x < 18446744073709551616 → (numBytes x).length ≤ 100000 := fun x hx => by have := numBytes_le hx; omega
  unfold fval
  split
  · exact hN _ (by omega)
  split
  · rw [bytesL_len]; omega
  split
  · exact hN _ (by omega)
  split
  · omega
  · exact hN _ (by omega)
theorem fd_pin {bl br ba : Nat} {la : Option Addr} {lc : Nat} {ts zs : List Int} {r : Rq} {fv : Value} {W5 W : World} {B : Nat} {base : Nat} {n : Nat} (h : FdSt bl br ba (.slice la ts.length lc) ts r fv zs W5) (hlt : n ≤ B ∧ B < bl ∧ B < br ∧ B < ba ∧ B < W5.heap.size)
    (hl : W5.ownsRow base 3 1 (.slice la ts.length lc) ts.length (i64s ts)) {q : Rq} {gv : Value} (hq : RqAt W5 B q gv) (hA : Mod (fun g => g = B) W5 W) : FdSt bl br ba (.slice la ts.length lc) ts r fv zs W := by
  obtain ⟨-, h1, h2, h3, -⟩ := hlt
  have hq' : W5.heap[B]? = _ := hq
  refine ⟨hA.heap h.1 (by omega), hA.heap h.2.1 (by omega), hA.heap h.2.2.1 (by omega), h.2.2.2.1.mod hA (fun g hg e => ?_), h.2.2.2.2.keep hA (fun g cs fr hg => ne_type_ hq' hg (by decide))⟩
  subst e
  exact own_other_ hl hq' (by decide) hg.symm
/-- An end behind a loop: one mark. -/
theorem rt_last {fn : Func} {p : Tmp} (h : fn.results = #[.cell p 4]) {tm : Array Value} {w W : World} {g D : Nat} {b : Bool} {r : Rq} {zs : List Int} {F : Fence} {n : Nat}
    (hp : tm.getD p undef = .pointer (some ⟨g, 0, none⟩)) (hg : w.heap[g]? = some (.cells #[.bool b] 4)) (hb : rightR r zs = b) (hB : Below W.heap.size W w) (hK : w.heap[D]? = some (.deferred (some []))) (hD : W.heap.size ≤ D) :
    LeavesInM F n Tryz.prog fn tm (RtrP r zs W) [{ target := .collected D, args := #[] }] .returning w := by
  refine ⟨by simp, .inl ⟨_, _, rfl, run_takeDeferred hK, ?_⟩⟩
  have hne : ¬ g = D := fun e => by rw [e, hK] at hg; cases hg
  exact ⟨_, results_cell_bool h _ _ g b hp ((mod_put_ w D _).heap hg hne), by rw [hb], hB.trans ((mod_put_ w D _).below hB.size (fun q hq e => by omega))⟩
theorem rt_end2 {F : Fence} {n : Nat} {fn : Func} {p : Tmp} (h : fn.results = #[.cell p 4]) {a : Act} {w W : World} {g D : Nat} {c : Bool} {b : Bool} {r : Rq} {zs : List Int}
    (hd : a.defers = [{ target := .collected D, args := #[] }]) (hp : a.tmps.getD p undef = .pointer (some ⟨g, 0, none⟩)) (hg : w.heap[g]? = some (.cells #[.bool c] 4)) (hb : rightR r zs = b) (hB : Below W.heap.size W w) (hgW : W.heap.size ≤ g) (hK : w.heap[D]? = some (.deferred (some []))) (hD : W.heap.size ≤ D) :
    bodyPostM F n Tryz.prog fn (RtrP r zs W) .ret a (w.setCell ⟨g, 0, none⟩ (.bool b)) := by
  have hh : (w.setCell ⟨g, 0, none⟩ (.bool b)).heap[g]? = some (.cells #[.bool b] 4) := by
    have := heap_set_ hg 0 (.bool b)
    simpa using this
  have hne : ¬ D = g := fun e => by rw [← e, hK] at hg; cases hg
  show LeavesInM F n Tryz.prog fn a.tmps (RtrP r zs W) a.defers .returning _
  rw [hd]
  exact rt_last h hp hh hb (hB.setCell (p := ⟨g, 0, none⟩) hgW _) ((mod_set_ w g 0 (.bool b)).heap hK hne) hD
/-- A round that goes on. -/
theorem rt_go {W5 Wc W6 : World} {B E : Nat} {r : Rq} {zs ts : List Int} {k : Nat} {t : Int} {a : Act} {gv' : Value} (hB : B < W5.heap.size) (hm : Mod (fun g => g = B) W5 Wc) (hok : ∀ t ∈ ts.take k, okT r t) (hta : ts.take (k + 1) = ts.take k ++ [t]) (ht : okT r t)
    (hm6 : Mod (fun g => g = B) Wc W6) (hq : RqAt W6 B (hadR r (ts.take k ++ [t])) gv') (hg : TB W6 gv' (hadZ zs (ts.take k ++ [t]))) :
    stPostX W5.heap.size (fun W' => RtI W5 B r zs ts (k + 1) W' ∧ Mod (fun g => g = B) W5 W') (RtX W5 B E r zs) Wc .normal a W6 := by
  refine ⟨keepsFrom_mod_ hm6 (fun q o1 h1 h2 h3 => by omega), ⟨gv', by rw [hta]; exact hq, by rw [hta]; exact hg, ?_, hm.trans hm6⟩, hm.trans hm6⟩
  rw [hta]
  intro t' ht'
  rcases List.mem_append.1 ht' with h | h
  · exact hok _ h
  · obtain rfl := List.mem_singleton.1 h
    exact ht
/-- A round that leaves the loop. -/
theorem rt_out {W5 Wc W6 : World} {B E : Nat} {r : Rq} {zs : List Int} {R : World → Prop} {a : Act} {c : Bool} (hB : B < W5.heap.size) (hE : E < W5.heap.size) (hm : Mod (fun g => g = B) W5 Wc) (hf : rightR r zs = false) (hm6 : Mod (fun g => g = B) Wc W6) (hE6 : W6.heap[E]? = some (.cells #[.bool c] 4)) :
    stPostX W5.heap.size R (RtX W5 B E r zs) Wc .ret a (W6.setCell ⟨E, 0, none⟩ (.bool false)) := by
  have hms := mod_set_ W6 E 0 (.bool false)
  have hmt : Mod (fun g => g = B ∨ g = E) Wc (W6.setCell ⟨E, 0, none⟩ (.bool false)) := (hm6.mono (fun _ _ h => .inl h)).trans (hms.mono (fun _ _ h => .inr h))
  refine ⟨keepsFrom_mod_ hmt (fun q o1 h1 h2 h3 => by omega), rfl, hf, ?_, (hm.mono (fun _ _ h => .inl h)).trans hmt⟩
  have := heap_set_ hE6 0 (.bool false)
  simpa using this
set_option maxHeartbeats 4000000 in
theorem Right_req (r : Rq) (fv : Value) (zs : List Int) (W : World) (hf : TB W fv zs) (ho : Octets zs) (hr : RqOk r) (hn : RqNum r) (hl : zs.length ≤ 100000) :
    Calls Tryz.prog 150 #[.agg (rqC r fv)] W (RtrP r zs W) := by
  obtain ⟨fa, fc, rfl⟩ := hf.form
  have HF := Lib.hid hf
  have HO := Lib.hid ho
  have HR := Lib.hid hr
  have HN := Lib.hid hn
  have hlI : (zs.length : Int) ≤ 100000 := by omega
  clear hf ho hr hn
  unfold rqC
  refine (callsIn_wide (n := 8)).1 ?_
  refine callsIn_of_wp_marks Tryz.func150 rfl trivial ?_ rfl
  simp only [Tryz.ntmps150, List.size_toArray, List.length_cons, List.length_nil, Nat.reduceAdd, Nat.reduceSub, Array.replicate_succ, Array.replicate_zero, List.push_toArray, List.append_toArray, List.nil_append, List.cons_append]
  refine wpIn_wide.2 ?_
  go_wp2_with fail
  have hs1 : (W.alloc (.cells (rqC r (.slice fa zs.length fc)) 165)).heap.size = W.heap.size + 1 := alloc_size_ _ _
  have HQ : Hid (RqAt ((W.alloc (.cells (rqC r (.slice fa zs.length fc)) 165)).alloc (.cells #[.bool false] 4)) W.heap.size r (.slice fa zs.length fc)) := ((Mod.refl (fun _ => False) _).alloc _).heap (World.alloc_heap_new W _) (fun h => h)
  have HE : Hid (((W.alloc (.cells (rqC r (.slice fa zs.length fc)) 165)).alloc (.cells #[.bool false] 4)).heap[W.heap.size + 1]? = some (.cells #[.bool false] 4)) := by
    have := World.alloc_heap_new (W.alloc (.cells (rqC r (.slice fa zs.length fc)) 165)) (.cells #[.bool false] 4)
    rw [hs1] at this
    exact this
  have HB : Hid (Below W.heap.size W ((W.alloc (.cells (rqC r (.slice fa zs.length fc)) 165)).alloc (.cells #[.bool false] 4))) := ((Below.refl _ _).alloc (Nat.le_refl _) _).alloc (by omega) _
  have HS : Hid (((W.alloc (.cells (rqC r (.slice fa zs.length fc)) 165)).alloc (.cells #[.bool false] 4)).heap.size = W.heap.size + 2) := by unfold Hid; rw [alloc_size_, hs1]
  unfold rqC at HQ HE HB HS
  clear hs1
  generalize (W.alloc (.cells #[.int .u8 r.kind, .int .u8 r.what, .string r.name, .int .i64 r.process, .int .i64 r.handle, .int .i64 r.holder, .int .i64 r.rights, .int .i64 r.time, .int .i64 r.source, .int .i64 r.seq, .int .i64 r.value, .slice fa zs.length fc] 165)).alloc (.cells #[.bool false] 4) = W2 at *
  refine (Tags_any _ _ _).mono ?_
  rintro e W3 ⟨lv, rfl, hlv, hb3⟩
  obtain ⟨la, lc, rfl⟩ := ownsRow_form hlv
  have HQ3 := Lib.hid (HQ.out.below hb3)
  have HE3 : Hid (W3.heap[W.heap.size + 1]? = some (.cells #[.bool false] 4)) := (Mod.of_same (S := fun _ => False) hb3).heap HE.out (fun h => h)
  have HB3 := Lib.hid (HB.out.trans (hb3.mono HB.out.size))
  have HLV := Lib.hid hlv
  have HS3 : Hid (W.heap.size + 2 ≤ W3.heap.size) := by have h1 := hb3.size; have h2 := HS.out; unfold Hid; omega
  have HS2 := Lib.hid HS.out
  clear hlv hb3 HQ HE HB HS
  have hres := cell_of_heap_ HE3.out
  have hrf : W3.frozen? ⟨W.heap.size + 1, 0, none⟩ = false := by simp [World.frozen?, HE3.out]
  obtain ⟨q0, q1, q2, q3, q4, q5, q6, q7, q8, q9, q10, q11⟩ := HQ3.out.cells
  have hlt3 : W.heap.size < W3.heap.size := by have := HS3.out; omega
  rcases hts : tgL r.kind r.what with _ | ts
  · have HX : Hid (rightR r zs = false) := by unfold Hid rightR; rw [hts]
    rw [hts] at HLV
    clear hts
    go_wp2_with fail
    exact rt_end rfl ⟨rfl, rfl⟩ HE3.out HX.out HB3.out (by omega)
  · obtain ⟨htg, hln⟩ := tgL_ok hts
    have HTG := Lib.hid htg
    have HLN := Lib.hid hln
    have HTS := Lib.hid hts
    rw [hts] at HLV
    simp only [Option.getD_some, Option.isSome_some] at HLV ⊢
    clear htg hln hts
    by_cases hnm : r.name.size ≤ 255
    · have hnmI : ¬ (255 : Int) < r.name.size := by omega
      by_cases hzl : zs.length ≤ 15000
      · have hzI : ¬ (15000 : Int) < zs.length := by omega
        go_wp2_with fail
        have hm4 : Mod (fun _ => False) W3 (W3.alloc (.cells (rqC (hadR r []) (.slice none 0 0)) 165)) := (Mod.refl _ _).alloc _
        have HH4 : Hid (RqAt (W3.alloc (.cells (rqC (hadR r []) (.slice none 0 0)) 165)) W3.heap.size (hadR r []) (.slice none 0 0)) := World.alloc_heap_new W3 _
        have HQ4 : Hid (RqAt (W3.alloc (.cells (rqC (hadR r []) (.slice none 0 0)) 165)) W.heap.size r (.slice fa zs.length fc)) := hm4.heap HQ3.out (fun h => h)
        have HE4 : Hid ((W3.alloc (.cells (rqC (hadR r []) (.slice none 0 0)) 165)).heap[W.heap.size + 1]? = some (.cells #[.bool false] 4)) := hm4.heap HE3.out (fun h => h)
        have HB4 : Hid (Below W.heap.size W (W3.alloc (.cells (rqC (hadR r []) (.slice none 0 0)) 165))) := HB3.out.trans (hm4.below HB3.out.size (fun _ _ h => h))
        have HL4 := Lib.hid (ownsRow_mod HLV.out hm4 (fun _ _ h => h))
        have HF4 := Lib.hid (HF.out.below HB4.out)
        have HS4 : Hid ((W3.alloc (.cells (rqC (hadR r []) (.slice none 0 0)) 165)).heap.size = W3.heap.size + 1) := alloc_size_ _ _
        clear hm4 HQ3 HE3 HB3 HLV q0 q1 q2 q3 q4 q5 q6 q7 q8 q9 q10 q11
        have hun : W3.alloc (.cells (rqC (hadR r []) (.slice none 0 0)) 165) = W3.alloc (.cells #[.int .u8 r.kind, .int .u8 0, .string { data := #[] }, .int .i64 0, .int .i64 0, .int .i64 0, .int .i64 0, .int .i64 0, .int .i64 0, .int .i64 0, .int .i64 0, .slice none 0 0] 165) := rfl
        rw [hun] at HH4 HQ4 HE4 HB4 HL4 HF4 HS4
        clear hun
        generalize W3.alloc (.cells #[.int .u8 r.kind, .int .u8 0, .string { data := #[] }, .int .i64 0, .int .i64 0, .int .i64 0, .int .i64 0, .int .i64 0, .int .i64 0, .int .i64 0, .int .i64 0, .slice none 0 0] 165) = W4 at *
        refine (fields_any r (.slice fa zs.length fc) zs (.slice la ts.length lc) ts W4 (Reads.of_owns HL4.out) HF4.out).mono ?_
        rintro e W5 ⟨bl, br, ba, rfl, hfd, ⟨hbl, hbr, hba⟩, hb5⟩
        have hm5 : Mod (fun _ => False) W4 W5 := Mod.of_same hb5
        have HH5 : Hid (RqAt W5 W3.heap.size (hadR r []) (.slice none 0 0)) := HH4.out.below hb5
        have HQ5 : Hid (RqAt W5 W.heap.size r (.slice fa zs.length fc)) := HQ4.out.below hb5
        have HE5 : Hid (W5.heap[W.heap.size + 1]? = some (.cells #[.bool false] 4)) := hm5.heap HE4.out (fun h => h)
        have HB5 : Hid (Below W.heap.size W W5) := HB4.out.trans (hb5.mono HB4.out.size)
        have HL5 := Lib.hid (ownsRow_mod HL4.out hm5 (fun _ _ h => h))
        have HFD := Lib.hid hfd
        have HLT : Hid (W.heap.size + 2 ≤ W3.heap.size ∧ W3.heap.size < bl ∧ W3.heap.size < br ∧ W3.heap.size < ba ∧ W3.heap.size < W5.heap.size) := by
          have h1 := HS4.out; have h2 := HS3.out; have h3 := hm5.size
          exact ⟨by omega, by omega, by omega, by omega, by omega⟩
        clear hm5 hb5 hfd hbl hbr hba HH4 HQ4 HE4 HB4 HL4 HS4 HF4
        go_wp2_with fail
        refine (wpIn_wide (n := 8)).1 ?_
        refine wpIn_rangeFunc_stx rfl (by omega) (gf := 200) (lb := #[.pointer (some ⟨bl, 0, none⟩), .pointer (some ⟨br, 0, none⟩), .pointer (some ⟨ba, 0, none⟩)]) rfl trivial (enters_of Tryz.func200 (by kernel_rfl) rfl) (fun _ => rfl)
          (SeqFx.pin W5 (fun g => g = W3.heap.size) (fields1_fx 7 (by omega) bl br ba ts la lc r (.slice fa zs.length fc) zs HR.out (by omega) HTG.out (by have := HLN.out; omega)) (fun k A hA => fd_pin HFD.out HLT.out HL5.out HH5.out hA))
          (fun k hk => hk.elim)
          (fun A' hA => Mod.of_same hA)
          (fun k A' l o1 o' hl hlo ho hS => hS.putObj (.inl hl) o')
          (RtI W5 W3.heap.size r zs ts)
          (fun k A' A'' hI' hm => hI'.mod hm)
          (fun k A' l o1 o' hl hlo ho hI' => hI'.put o' hl hlo ho)
          (RtX W5 W3.heap.size (W.heap.size + 1) r zs)
          (fun c A' A'' hI' hm => hI'.mod hm)
          (fun c A' l o1 o' hl hlo ho hI' => hI'.put o' hl hlo ho)
          ⟨_, HH5.out, TB.nil _ _, fun t ht => by simp at ht, Mod.refl _ _⟩
          (RtAs W5 W3.heap.size r zs ts (fun E x => { tmps := List.toArray (.agg #[.int .u8 r.kind, .int .u8 r.what, .string r.name, .int .i64 r.process, .int .i64 r.handle, .int .i64 r.holder, .int .i64 r.rights, .int .i64 r.time, .int .i64 r.source, .int .i64 r.seq, .int .i64 r.value, .slice fa zs.length fc] :: .pointer (some ⟨W.heap.size, 0, none⟩) :: .pointer (some ⟨W.heap.size + 1, 0, none⟩) :: .slice la ts.length lc :: .bool true :: .pointer (some ⟨W3.heap.size, 0, none⟩) :: .pointer (some ⟨E, 0, none⟩) :: .tuple #[.slice la ts.length lc, .bool true] :: .pointer (some ⟨W.heap.size, 0, none⟩) :: .int .u8 r.kind :: .pointer (some ⟨W.heap.size, 1, none⟩) :: .int .u8 r.what :: .tuple #[.slice la ts.length lc, .bool true] :: .slice la ts.length lc :: .bool true :: .bool true :: .bool false :: .bool false :: .pointer (some ⟨W.heap.size, 2, none⟩) :: .string r.name :: .int .i64 (r.name.size : Int) :: .bool false :: .bool false :: .bool false :: .pointer (some ⟨W.heap.size, 11, none⟩) :: .slice fa zs.length fc :: .int .i64 (zs.length : Int) :: .bool false :: .bool false :: .pointer (some ⟨W.heap.size, 0, none⟩) :: .int .u8 r.kind :: .agg #[.int .u8 r.kind, .int .u8 0, .string { data := #[] }, .int .i64 0, .int .i64 0, .int .i64 0, .int .i64 0, .int .i64 0, .int .i64 0, .int .i64 0, .int .i64 0, .slice none 0 0] :: .agg #[.int .u8 r.kind, .int .u8 r.what, .string r.name, .int .i64 r.process, .int .i64 r.handle, .int .i64 r.holder, .int .i64 r.rights, .int .i64 r.time, .int .i64 r.source, .int .i64 r.seq, .int .i64 r.value, .slice fa zs.length fc] :: .slice la ts.length lc :: .func (.func 200) #[] #[.pointer (some ⟨bl, 0, none⟩), .pointer (some ⟨br, 0, none⟩), .pointer (some ⟨ba, 0, none⟩)] :: x :: undef :: undef :: undef :: undef :: undef :: undef :: undef :: undef :: undef :: undef :: undef :: undef :: []), defers := [] }))
          (fun k a' A' l o1 o' hl hlo ho hA => hA.put o' hl hlo ho)
          ?assign ?body ?done ?stop
        case assign =>
          intro l k x W0 Wc K hk hsz hI' hm0 hY hK
          obtain ⟨t, v, he, rfl, hf, -⟩ := hY
          obtain ⟨xa, xc, rfl⟩ := hf.form
          have hma : Mod (fun _ => False) Wc (Wc.alloc (.cells #[.int .i64 t, .slice xa (fval r zs t).length xc] 141)) := (Mod.refl _ _).alloc _
          have has : RtAs W5 W3.heap.size r zs ts (fun E x => { tmps := List.toArray (.agg #[.int .u8 r.kind, .int .u8 r.what, .string r.name, .int .i64 r.process, .int .i64 r.handle, .int .i64 r.holder, .int .i64 r.rights, .int .i64 r.time, .int .i64 r.source, .int .i64 r.seq, .int .i64 r.value, .slice fa zs.length fc] :: .pointer (some ⟨W.heap.size, 0, none⟩) :: .pointer (some ⟨W.heap.size + 1, 0, none⟩) :: .slice la ts.length lc :: .bool true :: .pointer (some ⟨W3.heap.size, 0, none⟩) :: .pointer (some ⟨E, 0, none⟩) :: .tuple #[.slice la ts.length lc, .bool true] :: .pointer (some ⟨W.heap.size, 0, none⟩) :: .int .u8 r.kind :: .pointer (some ⟨W.heap.size, 1, none⟩) :: .int .u8 r.what :: .tuple #[.slice la ts.length lc, .bool true] :: .slice la ts.length lc :: .bool true :: .bool true :: .bool false :: .bool false :: .pointer (some ⟨W.heap.size, 2, none⟩) :: .string r.name :: .int .i64 (r.name.size : Int) :: .bool false :: .bool false :: .bool false :: .pointer (some ⟨W.heap.size, 11, none⟩) :: .slice fa zs.length fc :: .int .i64 (zs.length : Int) :: .bool false :: .bool false :: .pointer (some ⟨W.heap.size, 0, none⟩) :: .int .u8 r.kind :: .agg #[.int .u8 r.kind, .int .u8 0, .string { data := #[] }, .int .i64 0, .int .i64 0, .int .i64 0, .int .i64 0, .int .i64 0, .int .i64 0, .int .i64 0, .int .i64 0, .slice none 0 0] :: .agg #[.int .u8 r.kind, .int .u8 r.what, .string r.name, .int .i64 r.process, .int .i64 r.handle, .int .i64 r.holder, .int .i64 r.rights, .int .i64 r.time, .int .i64 r.source, .int .i64 r.seq, .int .i64 r.value, .slice fa zs.length fc] :: .slice la ts.length lc :: .func (.func 200) #[] #[.pointer (some ⟨bl, 0, none⟩), .pointer (some ⟨br, 0, none⟩), .pointer (some ⟨ba, 0, none⟩)] :: x :: undef :: undef :: undef :: undef :: undef :: undef :: undef :: undef :: undef :: undef :: undef :: undef :: []), defers := [] }) k { tmps := List.toArray (.agg #[.int .u8 r.kind, .int .u8 r.what, .string r.name, .int .i64 r.process, .int .i64 r.handle, .int .i64 r.holder, .int .i64 r.rights, .int .i64 r.time, .int .i64 r.source, .int .i64 r.seq, .int .i64 r.value, .slice fa zs.length fc] :: .pointer (some ⟨W.heap.size, 0, none⟩) :: .pointer (some ⟨W.heap.size + 1, 0, none⟩) :: .slice la ts.length lc :: .bool true :: .pointer (some ⟨W3.heap.size, 0, none⟩) :: .pointer (some ⟨Wc.heap.size, 0, none⟩) :: .tuple #[.slice la ts.length lc, .bool true] :: .pointer (some ⟨W.heap.size, 0, none⟩) :: .int .u8 r.kind :: .pointer (some ⟨W.heap.size, 1, none⟩) :: .int .u8 r.what :: .tuple #[.slice la ts.length lc, .bool true] :: .slice la ts.length lc :: .bool true :: .bool true :: .bool false :: .bool false :: .pointer (some ⟨W.heap.size, 2, none⟩) :: .string r.name :: .int .i64 (r.name.size : Int) :: .bool false :: .bool false :: .bool false :: .pointer (some ⟨W.heap.size, 11, none⟩) :: .slice fa zs.length fc :: .int .i64 (zs.length : Int) :: .bool false :: .bool false :: .pointer (some ⟨W.heap.size, 0, none⟩) :: .int .u8 r.kind :: .agg #[.int .u8 r.kind, .int .u8 0, .string { data := #[] }, .int .i64 0, .int .i64 0, .int .i64 0, .int .i64 0, .int .i64 0, .int .i64 0, .int .i64 0, .int .i64 0, .slice none 0 0] :: .agg #[.int .u8 r.kind, .int .u8 r.what, .string r.name, .int .i64 r.process, .int .i64 r.handle, .int .i64 r.holder, .int .i64 r.rights, .int .i64 r.time, .int .i64 r.source, .int .i64 r.seq, .int .i64 r.value, .slice fa zs.length fc] :: .slice la ts.length lc :: .func (.func 200) #[] #[.pointer (some ⟨bl, 0, none⟩), .pointer (some ⟨br, 0, none⟩), .pointer (some ⟨ba, 0, none⟩)] :: .agg #[.int .i64 t, .slice xa (fval r zs t).length xc] :: undef :: undef :: undef :: undef :: undef :: undef :: undef :: undef :: undef :: undef :: undef :: undef :: []), defers := [] } (Wc.alloc (.cells #[.int .i64 t, .slice xa (fval r zs t).length xc] 141)) :=
            ⟨t, .slice xa (fval r zs t).length xc, Wc.heap.size, he, rfl, World.alloc_heap_new _ _, hf.mod hma, (hI'.mod hm0).mod hma⟩
          have HAS := Lib.hid has
          have HKF := Lib.hid (keepsFrom_mod_ (b := W5.heap.size) hma (fun q o1 _ h => h.elim))
          clear has hma hf he hI' hm0
          gi_wp2
          exact hK _ _ HKF.out HAS.out
        case body =>
          intro l k a' Wc hk hA
          obtain ⟨t, v, E, htk, rfl, hE, hv, hI'⟩ := hA
          obtain ⟨gv, hrq, hgv, hok, hmod⟩ := hI'
          have HOF := Lib.hid (octets_fval (t := t) HR.out HO.out)
          have HLF := Lib.hid (len_fval (zs := zs) (t := t) HR.out (by omega) (by omega))
          have hEB : ¬ W3.heap.size = E := fun e => by
            have hrq' : Wc.heap[W3.heap.size]? = _ := hrq
            rw [e, hE] at hrq'
            have := Option.some.inj hrq'
            injection this with _ h2
            exact absurd h2 (by decide)
          obtain ⟨p0, p1⟩ := fld_cells hE
          have HRQ := Lib.hid hrq
          have HGV := Lib.hid hgv
          have HOK := Lib.hid hok
          have HMOD := Lib.hid hmod
          have HV := Lib.hid hv
          have HEc := Lib.hid hE
          have HTK := Lib.hid htk
          have HTA : Hid (ts.take (k + 1) = ts.take k ++ [t]) := by unfold Hid; rw [List.take_add_one, htk]; rfl
          have hmem : t ∈ ts := List.mem_of_getElem? htk
          have hcase := HTG.out t hmem
          obtain ⟨xa, xc, rfl⟩ := hv.form
          have hlB := HLT.out.2.2.2.2
          clear hmod hok hgv hrq hv hE htk
          rcases hcase with rfl | rfl | rfl | rfl | ⟨q, rfl, hq3, hq9⟩
          · have HQc : Hid (RqAt Wc W.heap.size r (.slice fa zs.length fc)) := HMOD.out.heap HQ5.out (by have := HLT.out; omega)
            obtain ⟨-, c1, -⟩ := HQc.out.cells
            obtain ⟨-, b1, -⟩ := HRQ.out.cells
            have fb := HRQ.out.frozen 1
            have hq6 := HRQ.out.setWhat r.what
            rw [← hadR_what] at hq6
            obtain ⟨N, hN⟩ : ∃ N : Nat, r.what.toNat = N := ⟨_, rfl⟩
            have h0 := HR.out.what0
            have h1 := HR.out.what1
            have hfv : fval r zs 1 = numBytes N := by unfold fval; rw [if_pos rfl, hN]
            have hm6 := mod_set_ Wc W3.heap.size 1 (.int .u8 r.what)
            have HV6 := Lib.hid (HV.out.keep hm6 (fun g cs fr hg => ne_type_ (show Wc.heap[W3.heap.size]? = _ from HRQ.out) hg (by decide)))
            have HC := Lib.hid (take_what W3.heap.size _ gv _ (fval r zs 1) _ hq6 HV6.out.1 HOF.out HLF.out (by simp only [hadR_what]; omega) (by simp only [hadR_what]; omega))
            have hd : decide ((lastV (fval r zs 1)).2.2 = 0 ∧ (lastV (fval r zs 1)).1 = (hadR r (ts.take k ++ [1])).what) = true := by
              rw [hfv, last_num (by omega), hadR_what]
              exact decide_eq_true ⟨rfl, by show (N : Int) = r.what; omega⟩
            rw [hd] at HC
            have HM5 := Lib.hid hm6
            clear hq6 hN h0 h1 hfv hm6 hd
            gi_wp2
            refine ⟨trivial, ?_⟩
            refine (callsIn_wide.2 HC.out).mono ?_; rintro e W6 ⟨rfl, hq6, hb6⟩
            have HM6 : Hid (Mod (fun g => g = W3.heap.size) Wc W6) := HM5.out.trans (Mod.of_same hb6)
            have HQ6 := Lib.hid hq6
            have HGV6 := Lib.hid (HGV.out.keep (S := fun g => g = W3.heap.size) HM6.out (fun g cs fr hg => ne_type_ (show Wc.heap[W3.heap.size]? = _ from HRQ.out) hg (by decide)))
            clear hq6 hb6 HC
            gi_wp2
            exact rt_go hlB HMOD.out HOK.out HTA.out (.inl rfl) HM6.out HQ6.out (by rw [hadZ_no _ _ (by decide)]; exact HGV6.out)
          · have hfv : fval r zs 2 = bytesL r.name := by unfold fval; rw [if_neg (by decide), if_pos rfl]
            have HC := Lib.hid (take_name W3.heap.size _ gv _ (fval r zs 2) _ HRQ.out HV.out.1 HOF.out HLF.out)
            rw [hfv, strOfNums_bytesL, ← hadR_name] at HC
            rw [← hfv] at HC
            clear hfv
            gi_wp2
            refine ⟨trivial, ?_⟩
            refine (callsIn_wide.2 HC.out).mono ?_; rintro e W6 ⟨rfl, hq6, hm6⟩
            have HM6 := Lib.hid hm6
            have HQ6 := Lib.hid hq6
            have HGV6 := Lib.hid (HGV.out.keep (S := fun g => g = W3.heap.size) HM6.out (fun g cs fr hg => ne_type_ (show Wc.heap[W3.heap.size]? = _ from HRQ.out) hg (by decide)))
            clear hq6 hm6 HC
            gi_wp2
            exact rt_go hlB HMOD.out HOK.out HTA.out (.inr (.inl rfl)) HM6.out HQ6.out (by rw [hadZ_no _ _ (by decide)]; exact HGV6.out)
          · obtain ⟨N, hN⟩ : ∃ N : Nat, (foldV r.value).toNat = N := ⟨_, rfl⟩
            have hfb := foldV_bd HR.out.value0 HR.out.value1
            have hfv : fval r zs 10 = numBytes N := by unfold fval; rw [if_neg (by decide), if_neg (by decide), if_pos rfl, hN]
            have hlv : lastV (fval r zs 10) = ((N : Int), ((sizeN N : Nat) : Int), 0) := by rw [hfv, last_num (by omega)]
            have HC := Lib.hid (take_value W3.heap.size _ gv _ (fval r zs 10) _ HRQ.out HV.out.1 HOF.out HLF.out (by rw [hlv]; show (0 : Int) ≤ N; omega) (by rw [hlv]; show (N : Int) < _; omega))
            have hd : decide ((lastV (fval r zs 10)).2.2 = 0) = true := by rw [hlv]; rfl
            have hu : unfV (lastV (fval r zs 10)).1 = r.value := by
              rw [hlv]
              show unfV (N : Int) = _
              rw [show (N : Int) = foldV r.value by omega, unf_fold]
            rw [hd, hu, ← hadR_value] at HC
            clear hN hfb hfv hlv hd hu
            gi_wp2
            refine ⟨trivial, ?_⟩
            refine (callsIn_wide.2 HC.out).mono ?_; rintro e W6 ⟨rfl, hq6, hm6⟩
            have HM6 := Lib.hid hm6
            have HQ6 := Lib.hid hq6
            have HGV6 := Lib.hid (HGV.out.keep (S := fun g => g = W3.heap.size) HM6.out (fun g cs fr hg => ne_type_ (show Wc.heap[W3.heap.size]? = _ from HRQ.out) hg (by decide)))
            clear hq6 hm6 HC
            gi_wp2
            exact rt_go hlB HMOD.out HOK.out HTA.out (.inr (.inr (.inl rfl))) HM6.out HQ6.out (by rw [hadZ_no _ _ (by decide)]; exact HGV6.out)
          · have hfv : fval r zs 11 = zs := by unfold fval; rw [if_neg (by decide), if_neg (by decide), if_neg (by decide), if_pos rfl]
            have HC := Lib.hid (take_fed W3.heap.size _ gv _ (fval r zs 11) _ HRQ.out HV.out.1 HOF.out HLF.out)
            have HFV := Lib.hid hfv
            rw [← hadR_fed] at HC
            clear hfv
            gi_wp2
            refine ⟨trivial, ?_⟩
            refine (callsIn_wide.2 HC.out).mono ?_; rintro e W6 ⟨rfl, v', hq6, ho6, hm6⟩
            have HM6 := Lib.hid hm6
            have HQ6 := Lib.hid hq6
            have HO6 := Lib.hid (TB.of_own ho6)
            clear hq6 hm6 ho6 HC
            gi_wp2
            exact rt_go hlB HMOD.out HOK.out HTA.out (.inr (.inr (.inr (.inl rfl)))) HM6.out HQ6.out (by rw [hadZ_fed, ← HFV.out]; exact HO6.out)
          · obtain ⟨N, hN⟩ : ∃ N : Nat, (getN r (q : Int) % 18446744073709551616).toNat = N := ⟨_, rfl⟩
            have hn0 := HN.out.lo (q : Int)
            have hn1 := HN.out.hi (q : Int)
            have hfv : fval r zs (q : Int) = numBytes N := by unfold fval; rw [if_neg (by omega), if_neg (by omega), if_neg (by omega), if_neg (by omega), hN]
            have hlv : lastV (fval r zs (q : Int)) = ((N : Int), ((sizeN N : Nat) : Int), 0) := by rw [hfv, last_num (by omega)]
            have HC := Lib.hid (take_num W3.heap.size _ gv q hq3 hq9 _ (fval r zs (q : Int)) _ HRQ.out HV.out.1 HOF.out HLF.out)
            have hB : takeB (hadR r (ts.take k)) (q : Int) (fval r zs (q : Int)) = decide (0 ≤ getN r (q : Int)) := by
              unfold takeB
              rw [if_neg (by omega), if_neg (by omega), if_neg (by omega), hlv]
              show ((0 : Int) == 0 && decide ((N : Int) ≤ 9223372036854775807)) = _
              rw [show ((0 : Int) == 0) = true from rfl, Bool.true_and]
              exact decide_eq_decide.2 (by omega)
            have hQ : takeQ (hadR r (ts.take k)) (q : Int) (fval r zs (q : Int)) = hadR r (ts.take k ++ [(q : Int)]) := by
              unfold takeQ
              rw [if_neg (by omega), if_neg (by omega), hlv, hadR_num _ _ hq3 hq9]
              show setN _ _ (wrap64 (N : Int)) = _
              rw [show wrap64 (N : Int) = getN r (q : Int) by unfold wrap64; omega]
            rw [hB, hQ] at HC
            clear hB hQ hlv hfv hN
            by_cases hpos : 0 ≤ getN r (q : Int)
            · rw [decide_eq_true hpos] at HC
              have HP := Lib.hid hpos
              clear hpos hn0 hn1
              gi_wp2
              refine ⟨trivial, ?_⟩
              refine (callsIn_wide.2 HC.out).mono ?_; rintro e W6 ⟨rfl, hq6, hm6⟩
              have HM6 := Lib.hid hm6
              have HQ6 := Lib.hid hq6
              have HGV6 := Lib.hid (HGV.out.keep (S := fun g => g = W3.heap.size) HM6.out (fun g cs fr hg => ne_type_ (show Wc.heap[W3.heap.size]? = _ from HRQ.out) hg (by decide)))
              clear hq6 hm6 HC
              gi_wp2
              exact rt_go hlB HMOD.out HOK.out HTA.out (.inr (.inr (.inr (.inr HP.out)))) HM6.out HQ6.out (by rw [hadZ_no _ _ (by omega)]; exact HGV6.out)
            · rw [decide_eq_false hpos] at HC
              have HX : Hid (rightR r zs = false) := by
                unfold Hid rightR
                rw [HTS.out]
                have hno : ¬ okT r (q : Int) := by unfold okT; omega
                have hal : ts.all (fun t => decide (okT r t)) = false := by
                  rw [List.all_eq_false]
                  exact ⟨_, hmem, by simpa using hno⟩
                simp only [hal, Bool.and_false, Bool.false_and]
              clear hpos hn0 hn1
              gi_wp2
              refine ⟨trivial, ?_⟩
              refine (callsIn_wide.2 HC.out).mono ?_; rintro e W6 ⟨rfl, hq6, hm6⟩
              have HM6 := Lib.hid hm6
              have HE6 : Hid (W6.heap[W.heap.size + 1]? = some (.cells #[.bool false] 4)) := (HMOD.out.trans hm6).heap HE5.out (by have := HLT.out; omega)
              have hres6 := cell_of_heap_ HE6.out
              have hrf6 : W6.frozen? ⟨W.heap.size + 1, 0, none⟩ = false := by simp [World.frozen?, HE6.out]
              clear hq6 hm6 HC
              gi_wp2
              exact rt_out hlB (by have := HLT.out; omega) HMOD.out HX.out HM6.out HE6.out
        case done =>
          intro D Wc hD hI' hS hK
          obtain ⟨gv, hrq, hgv, hok, hmod⟩ := hI'
          rw [List.take_length] at hrq hgv hok
          obtain ⟨ga, gc, rfl⟩ := hgv.form
          have HRQ := Lib.hid hrq
          have HGV := Lib.hid hgv
          have HOK := Lib.hid hok
          have HK := Lib.hid hK
          have HMOD := Lib.hid hmod
          have HQc : Hid (RqAt Wc W.heap.size r (.slice fa zs.length fc)) := hmod.heap HQ5.out (by have := HLT.out; omega)
          have HEc : Hid (Wc.heap[W.heap.size + 1]? = some (.cells #[.bool false] 4)) := hmod.heap HE5.out (by have := HLT.out; omega)
          have HBc : Hid (Below W.heap.size W Wc) := HB5.out.trans (hmod.below HB5.out.size (fun q hq e => by have := HLT.out; omega))
          have HFc := Lib.hid (HF.out.below HBc.out)
          have HSM := Lib.hid (Same_any (hadR r ts) r (.slice ga (hadZ zs ts).length gc) (.slice fa zs.length fc) _ _ Wc ⟨_, hgv.1, rfl⟩ ⟨_, HFc.out.1, rfl⟩)
          clear hrq hgv hok hK hmod hS
          obtain ⟨b0, b1, b2, b3, b4, b5, b6, b7, b8, b9, b10, b11⟩ := HRQ.out.cells
          obtain ⟨q0, q1, q2, q3, q4, q5, q6, q7, q8, q9, q10, q11⟩ := HQc.out.cells
          simp only [Exit.inBlock, Exit.then]
          go_wp2_with fail
          refine HSM.out.mono ?_; rintro e W7 ⟨b, rfl, hb, hb7⟩
          have HX : Hid (rightR r zs = b) := right_iff HTS.out hnm hzl HO.out HOK.out hb
          have HK7 : Hid (W7.heap[D]? = some (.deferred (some []))) := (Mod.of_same (S := fun _ => False) hb7).heap HK.out (fun h => h)
          have HE7 : Hid (W7.heap[W.heap.size + 1]? = some (.cells #[.bool false] 4)) := (Mod.of_same (S := fun _ => False) hb7).heap HEc.out (fun h => h)
          have HB7 : Hid (Below W.heap.size W W7) := HBc.out.trans (hb7.mono HBc.out.size)
          have hres7 := cell_of_heap_ HE7.out
          have hrf7 : W7.frozen? ⟨W.heap.size + 1, 0, none⟩ = false := by simp [World.frozen?, HE7.out]
          clear hb hb7 b0 b1 b2 b3 b4 b5 b6 b7 b8 b9 b10 b11 q0 q1 q2 q3 q4 q5 q6 q7 q8 q9 q10 q11
          go_wp2_with fail
          exact rt_end2 rfl rfl rfl HE7.out HX.out HB7.out (by omega) HK7.out (by have := HLT.out; omega)
        case stop =>
          intro D c Wc hD hX hK
          obtain ⟨rfl, hf, hE, hmod⟩ := hX
          have HX := Lib.hid hf
          have HE7 := Lib.hid hE
          have HK := Lib.hid hK
          have HBc : Hid (Below W.heap.size W Wc) := HB5.out.trans (hmod.below HB5.out.size (fun q hq e => by have := HLT.out; omega))
          clear hf hE hK hmod
          refine wpIn_wide.2 ?_
          go_wp2_with fail
          exact rt_last rfl rfl HE7.out HX.out HBc.out HK.out (by have := HLT.out; omega)
      · have hzI : (15000 : Int) < zs.length := by omega
        have HX : Hid (rightR r zs = false) := by unfold Hid rightR; rw [HTS.out]; simp [hzl]
        clear hzl
        go_wp2_with fail
        exact rt_end rfl ⟨rfl, rfl⟩ HE3.out HX.out HB3.out (by omega)
    · have hnmI : (255 : Int) < r.name.size := by omega
      have HX : Hid (rightR r zs = false) := by unfold Hid rightR; rw [HTS.out]; simp [hnm]
      clear hnm
      go_wp2_with fail
      exact rt_end rfl ⟨rfl, rfl⟩ HE3.out HX.out HB3.out (by omega)
end Eng
end Go.Proofs.YtdfmgneicdpjmaaGreat
