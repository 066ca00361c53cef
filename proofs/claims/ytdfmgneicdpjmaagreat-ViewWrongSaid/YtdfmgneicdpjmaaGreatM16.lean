import Derived.Test.YtdfmgneicdpjmaaGreatM15
import Derived.Deep.RegionHeld3
import Derived.Deep.AppendLies
import Derived.RangeFuncCalls
import Derived.BigQuiet
import Derived.Test.YtdfmgneicdpjmaaGreatM09
import Derived.Test.YtdfmgneicdpjmaaGreatM13
/- field.Read over the body of a response. -/
namespace Go.Proofs.YtdfmgneicdpjmaaGreat
open Go.RowKit Go.Shelf
attribute [local go_sem] Oper.semAt_some
set_option linter.unusedVariables false
set_option linter.unusedSimpArgs false
set_option maxRecDepth 100000
namespace Resp

theorem sClone_bytes (v : Value) (zs : List Int) (W : World) (h : Reads .u8 W v zs) (h0 : 0 < zs.length) (hl : zs.length ≤ 1048576) :
    Calls Tryz.prog 80 #[v] W fun e w' => ∃ v', e = .returned v' ∧ w'.ownsRow W.heap.size 5 1 v' zs.length (u8s zs) ∧ Below W.heap.size W w' := by
  obtain ⟨i0, hi, hz0, hz1, hz2⟩ := info_parts infoByte
  obtain ⟨ad, c, e, -, hnw⟩ := Reads.lies_ h h0
  subst e
  have HNW := Lib.hid hnw
  clear hnw
  generalize hn : zs.length = n at *
  have HN := Lib.hid hn
  have hlI : (n : Int) ≤ 1048576 := by omega
  have hnz : ¬ n = 0 := by omega
  clear hn
  have hnil : (binOp .eql 25 (.slice (some ad) n c) (.slice none 0 0)).run Tryz.prog W = .ok (.bool false) W := by kernel_rfl
  go_enter Tryz.func80, Tryz.ntmps80
  go_wp2_with (at_builtin; refine wpList_append_own _ rfl _ _ 25 rfl W.heap.size 5 i0 (.int .u8 0) 1 1 Tryz.underlying25 hi hz0 hz1 hz2 rfl (by decide) _ _ _ rfl (World.ownsRow_lit W #[] 0 (Nat.le_refl _) (by unfold maxLen; omega) rfl) ad n c (u8s zs) rfl (by rw [u8s_length, HN.out, Nat.mul_one]) (HNW.out _ ((Below.refl _ _).alloc (Nat.le_refl _) _)) (u8s_one _) (by unfold maxLen; omega) (by omega) (by simp) ?_; intro v' w5 hown' hgrow hat; obtain ⟨a', c', e⟩ := ownsRow_form hown'; subst e; have HOWN := Lib.hid hown'; have HG := Lib.hid hgrow; clear hown' hgrow hat)
  go_ret
  have hm5 : Mod (fun k => some k = (Value.slice (some ⟨W.heap.size, 0, none⟩) 0 0).ownBlock) W w5 := ((Mod.refl _ W).alloc _).trans (Mod.of_grownBy HG.out)
  refine ⟨.slice a' n c', by simp, by simpa using HOWN.out, hm5.below (Nat.le_refl _) (fun k hk e => by simp [Value.ownBlock] at e; omega)⟩


def fT : Nat → Int | 0 => 1 | _ => 3
def fZ (n : Nat) : Nat → List Int | 0 => [(n : Int)] | _ => [248, 1, 85]
def fLa : Nat → Int | 0 => 0 | 1 => 1 | _ => 3
def fLe : Nat → Int | 0 => 16384 | 1 => 16383 | _ => 16380
def fS (n : Nat) : Nat → List (Int × List Int) | 0 => [] | 1 => [(1, [(n : Int)])] | _ => [(1, [(n : Int)]), (3, [248, 1, 85])]
def fO (o : Nat) : Nat → Nat | 0 => o + 2 | _ => o + 5
def fC (c : Nat) : Nat → Nat | 0 => c - 2 | _ => c - 5
def fAt : Nat → Int | 0 => 0 | _ => 3
theorem fldX_eq (g o c n k : Nat) (hk : k < 2) : fldX g o c k = (.int .i64 (fAt k), .agg #[.int .i64 (fT k), .slice (some ⟨g, fO o k, none⟩) (fZ n k).length (fC c k)]) := by
  rcases k with _ | _ | k
  · rfl
  · rfl
  · omega
def fI (W : World) (N n1 n k : Nat) (W' : World) : Prop :=
  (∃ vo fs, W'.heap[N]? = some (.cells #[vo] 137) ∧ FieldsOwn W' n1 vo fs ∧ fs.map (fun f => (f.1, f.2.2)) = fS n k) ∧ W'.heap[N + 1]? = some (.cells #[.int .i64 (fLa k)] 3) ∧ W'.heap[N + 1 + 1]? = some (.cells #[.int .i64 (fLe k)] 3) ∧ W'.heap[N + 1 + 1 + 1]? = some (.cells #[.int .i64 (-1)] 3) ∧ Below N W W' ∧ n1 ≤ W'.heap.size
theorem FieldsOwn.mod {S : Nat → Prop} {W W' : World} {base : Nat} {v : Value} {fs : List F} (h : FieldsOwn W base v fs) (hm : Mod S W W') (hS : ∀ q, base ≤ q → ¬ S q) : FieldsOwn W' base v fs :=
  ⟨ownsRow_mod h.1 hm (fun q hq => hS q (ownBlock_ge_ h.1 hq)), fun f hf => ownsRow_mod (h.2 f hf) hm (fun q hq => hS q (ownBlock_ge_ (h.2 f hf) hq))⟩
theorem fI.keep {S : Nat → Prop} {W : World} {N n1 n k : Nat} {A A' : World} (h : fI W N n1 n k A) (hm : Mod S A A') (hS : ∀ q, ¬ S q) : fI W N n1 n k A' := by
  obtain ⟨⟨vo, fs, h1, h2, h3⟩, h4, h5, h6, h7, h8⟩ := h
  refine ⟨⟨vo, fs, hm.heap h1 (hS _), h2.mod hm (fun q _ => hS q), h3⟩, hm.heap h4 (hS _), hm.heap h5 (hS _), hm.heap h6 (hS _), ⟨hm.os.trans h7.os, hm.tape.trans h7.tape, hm.output.trans h7.output, Nat.le_trans h7.size hm.size, fun q hq => (hm.block q ?_ (hS q)).trans (h7.block q hq)⟩, Nat.le_trans h8 hm.size⟩
  have := (Array.getElem?_eq_some_iff.1 h1).1
  omega
theorem fI.put {W : World} {N n1 n k : Nat} {A : World} (h : fI W N n1 n k A) {l : Nat} {o : Obj} (o' : Obj) (hl : A.heap[l]? = some o) (ho : o.isCells = false) (hNl : N ≤ l) : fI W N n1 n k (A.putObj l o') := by
  obtain ⟨⟨vo, fs, h1, h2, h3⟩, h4, h5, h6, h7, h8⟩ := h
  have hm := mod_put_ A l o'
  have hne : ∀ {q : Nat} {cs : Array Value} {t : TypeId}, A.heap[q]? = some (.cells cs t) → ¬ q = l := fun hq e => by
    rw [e, hl] at hq; cases hq; cases ho
  refine ⟨⟨vo, fs, hm.heap h1 (hne h1), ⟨ownsRow_putObj h2.1 _ hl ho, fun f hf => ownsRow_putObj (h2.2 f hf) _ hl ho⟩, h3⟩, hm.heap h4 (hne h4), hm.heap h5 (hne h5), hm.heap h6 (hne h6), h7.trans (hm.below ?_ (fun q hq e => by omega)), Nat.le_trans h8 hm.size⟩
  have := (Array.getElem?_eq_some_iff.1 h1).1
  omega
theorem four_new_ (W : World) (o1 o2 o3 o4 : Obj) : ((((W.alloc o1).alloc o2).alloc o3).alloc o4).heap[W.heap.size]? = some o1 ∧ ((((W.alloc o1).alloc o2).alloc o3).alloc o4).heap[W.heap.size + 1]? = some o2 ∧ ((((W.alloc o1).alloc o2).alloc o3).alloc o4).heap[W.heap.size + 1 + 1]? = some o3 ∧ ((((W.alloc o1).alloc o2).alloc o3).alloc o4).heap[W.heap.size + 1 + 1 + 1]? = some o4 := by
  obtain ⟨h1, h2, h3⟩ := three_new_ W o1 o2 o3
  have h4 := World.alloc_heap_new (((W.alloc o1).alloc o2).alloc o3) o4
  simp only [World.size_alloc] at h4
  exact ⟨(Below.heap_alloc _ _ _ (by simp <;> omega)).trans h1, (Below.heap_alloc _ _ _ (by simp <;> omega)).trans h2, (Below.heap_alloc _ _ _ (by simp <;> omega)).trans h3, h4⟩
def fAs (W : World) (g o c n : Nat) (k : Nat) (a' : Act) (W' : World) : Prop :=
  ∃ P, a' = { tmps := #[.slice (some ⟨g, o, none⟩) 8 c, undef, .slice none 0 0, .int .i64 0, .int .i64 0, .pointer (some ⟨W.heap.size, 0, none⟩), .pointer (some ⟨W.heap.size + 1, 0, none⟩), .pointer (some ⟨W.heap.size + 1 + 1, 0, none⟩), .pointer (some ⟨W.heap.size + 1 + 1 + 1, 0, none⟩), .int .i64 (fAt k), .pointer (some ⟨P, 0, none⟩), .slice (some ⟨g, o, none⟩) 8 c, .int .i64 8, .bool false, .slice (some ⟨g, o, none⟩) 8 c, .func (.func 166) #[] #[.pointer (some ⟨W.heap.size + 4, 0, none⟩)], .int .i64 (fAt k), (.agg #[.int .i64 (fT k), .slice (some ⟨g, fO o k, none⟩) (fZ n k).length (fC c k)]), undef, undef, undef, undef, undef, undef, undef, undef, undef, undef, undef, undef, undef, undef, undef, undef, undef, undef, undef, undef, undef, undef, undef, undef, undef, undef, undef, undef, undef, undef, undef, undef, undef, undef, undef, undef, undef, undef, undef, undef, undef, undef], defers := [] } ∧ W'.heap[P]? = some (.cells #[.int .i64 (fT k), .slice (some ⟨g, fO o k, none⟩) (fZ n k).length (fC c k)] 141) ∧ (W.heap.size + 5 ≤ P ∧ ∀ vo, W'.heap[W.heap.size]? = some (.cells #[vo] 137) → ¬ some P = vo.ownBlock) ∧ fI W W.heap.size (W.heap.size + 5) n k W' ∧ fldSt g o c n (W.heap.size + 4) k W'
theorem fldSt.keep {S : Nat → Prop} {g o c n bx k : Nat} {A A' : World} (h : fldSt g o c n bx k A) (hm : Mod S A A') (h1 : ¬ S bx) (h2 : ¬ S g) : fldSt g o c n bx k A' := ⟨hm.heap h.1 h1, h.2.mod hm h2⟩
set_option maxHeartbeats 4000000 in
theorem fieldRead_any (g o c n : Nat) (hn : n ≤ 246) (hc : 8 ≤ c) (W : World) (h : BodyAt W g o n) :
    Calls Tryz.prog 85 #[.slice (some ⟨g, o, none⟩) 8 c] W fun e w' => ∃ v v1 v2, e = .returned (.tuple #[v, .int .i64 0, .int .i64 0]) ∧ FieldsOwn w' W.heap.size v [(1, v1, [(n : Int)]), (3, v2, [248, 1, 85])] ∧ Below W.heap.size W w' := by
  obtain ⟨i1, hi, hz0, hz1, hz2⟩ := info_parts infoField2
  have HBD := Lib.hid h
  clear h
  refine (callsIn_wide (n := 8)).1 ?_
  refine callsIn_of_wp_marks Tryz.func85 rfl trivial ?_ rfl
  simp only [Tryz.ntmps85, List.size_toArray, List.length_cons, List.length_nil, Nat.reduceAdd, Nat.reduceSub, Array.replicate_succ, Array.replicate_zero, List.push_toArray, List.append_toArray, List.nil_append, List.cons_append]
  refine wpIn_wide.2 ?_
  go_wp2_with fail
  go_step3
  go_wp2_with fail
  go_step3
  go_upto_region 5 with fail
  obtain ⟨hh1, hh2, hh3, hh4⟩ := four_new_ W (.cells #[.slice none 0 0] 137) (.cells #[.int .i64 0] 3) (.cells #[.int .i64 16384] 3) (.cells #[.int .i64 (-1)] 3)
  have hs4 : ((((W.alloc (.cells #[.slice none 0 0] 137)).alloc (.cells #[.int .i64 0] 3)).alloc (.cells #[.int .i64 16384] 3)).alloc (.cells #[.int .i64 (-1)] 3)).heap.size = W.heap.size + 4 := by simp
  have hm4 : Mod (fun _ => False) W ((((W.alloc (.cells #[.slice none 0 0] 137)).alloc (.cells #[.int .i64 0] 3)).alloc (.cells #[.int .i64 16384] 3)).alloc (.cells #[.int .i64 (-1)] 3)) := ((((Mod.refl _ _).alloc _).alloc _).alloc _).alloc _
  generalize ((((W.alloc (.cells #[.slice none 0 0] 137)).alloc (.cells #[.int .i64 0] 3)).alloc (.cells #[.int .i64 16384] 3)).alloc (.cells #[.int .i64 (-1)] 3)) = W4 at *
  have HH1 := Lib.hid hh1
  have HH2 := Lib.hid hh2
  have HH3 := Lib.hid hh3
  have HH4 := Lib.hid hh4
  have HS4 := Lib.hid hs4
  have HM4 := Lib.hid hm4
  clear hh1 hh2 hh3 hh4 hs4 hm4
  go_wp2_with fail
  refine (fields_any (some ⟨g, o, none⟩) 8 c W4).mono ?_; rintro e W5 ⟨rfl, hW5⟩
  have HM5 : Hid (Mod (fun _ => False) W4 (W4.alloc (.cells #[.slice (some ⟨g, o, none⟩) 8 c] 25))) := (Mod.refl _ _).alloc _
  have HX5 := Lib.hid (World.alloc_heap_new W4 (.cells #[.slice (some ⟨g, o, none⟩) 8 c] 25))
  have HS5 : Hid ((W4.alloc (.cells #[.slice (some ⟨g, o, none⟩) 8 c] 25)).heap.size = W4.heap.size + 1) := by simp [Hid]
  rw [← hW5] at HM5 HX5 HS5
  clear hW5
  rw [HS4.out] at HX5 HS5
  simp only [HS4.out]
  go_wp2_with fail
  have hm05 := HM4.out.trans HM5.out
  have HST : Hid (fldSt g o c n (W.heap.size + 4) 0 W5) := ⟨HX5.out, HBD.out.mod hm05 (by simp)⟩
  have HI0 : Hid (fI W W.heap.size (W.heap.size + 5) n 0 W5) := ⟨⟨_, [], HM5.out.heap HH1.out (by simp), ⟨owns_nil _ _ _ _, fun f hf => absurd hf (by simp)⟩, rfl⟩, HM5.out.heap HH2.out (by simp), HM5.out.heap HH3.out (by simp), HM5.out.heap HH4.out (by simp), hm05.below (Nat.le_refl _) (by simp), by have := HS5.out; omega⟩
  clear hm05 HH1 HH2 HH3 HH4 HM4 HM5 HX5
  have hgW : g < W.heap.size := World.block_lt_of_cell? W _ (HBD.out 0 (by omega))
  refine (wpIn_wide (n := 8)).1 ?_
  refine wpIn_rangeFunc_st2 rfl (by omega) (gf := 166) (lb := #[.pointer (some ⟨W.heap.size + 4, 0, none⟩)]) rfl trivial (enters_of Tryz.func166 (by kernel_rfl) rfl) (fun _ => rfl)
    (fields1_st 7 (by omega) g o c n (W.heap.size + 4) hn hc)
    (fun k hk => hk.elim)
    (fun A' hA => HST.out.keep (Mod.of_below hA) (by have := HS5.out; omega) (by have := HS5.out; omega))
    (fun k A' l o1 o' hl hlo ho hS => hS.keep (mod_put_ A' l o') (by have := HS5.out; omega) (by have := HS5.out; omega))
    (fI W W.heap.size (W.heap.size + 5) n)
    (fun k A' A'' hI' hm => hI'.keep hm (fun q hq => hq))
    (fun k A' l o1 o' hl hlo ho hI' => hI'.put _ hlo ho (by have := HS5.out; omega))
    HI0.out
    (fAs W g o c n)
    (fun k a' A' l o1 o' hl hlo ho hA => by
      obtain ⟨P, h1, h2, h3, h4, h5⟩ := hA
      have hne : ¬ P = l := fun e => by rw [e, hlo] at h2; cases h2; cases ho
      exact ⟨P, h1, (mod_put_ A' l o').heap h2 hne, ⟨h3.1, fun vo hvo => h3.2 vo (by rw [← hvo]; exact ((mod_put_ A' l o').block _ (by obtain ⟨⟨vo, fs, hq, -⟩, -⟩ := h4; exact (Array.getElem?_eq_some_iff.1 hq).1) (by have := HS5.out; omega)).symm)⟩, h4.put _ hlo ho (by have := HS5.out; omega), h5.keep (mod_put_ A' l o') (by have := HS5.out; omega) (by have := HS5.out; omega)⟩)
    ?assign ?body ?done
  case assign =>
    intro l k x Wc K hk hsz hI' hY hK
    obtain ⟨rfl, hst⟩ := hY
    rw [fldX_eq g o c n k hk]
    gi_wp2
    have hma : Mod (fun _ => False) Wc (Wc.alloc (.cells #[.int .i64 (fT k), .slice (some ⟨g, fO o k, none⟩) (fZ n k).length (fC c k)] 141)) := (Mod.refl _ _).alloc _
    exact hK _ _ (keepsFrom_mod_ hma (fun q o1 _ h => h.elim)) ⟨Wc.heap.size, rfl, World.alloc_heap_new _ _, ⟨by have := HS5.out; omega, fun vo hvo => by
      obtain ⟨⟨vo', fs, hq, hfo, -⟩, -⟩ := hI'
      have h9 := hma.heap hq (fun h => h)
      rw [hvo] at h9
      cases h9
      intro e
      exact Nat.lt_irrefl _ (ownBlock_lt_ hfo.1 e.symm)⟩, hI'.keep hma (fun q h => h), hst.keep hma (by simp) (by simp)⟩
  case body =>
    intro l k a' Wc hk hA
    obtain ⟨P, rfl, hP, ⟨hPn, hnp⟩, ⟨⟨vo, fs, ho1, hfo, hsp⟩, hla, hle, hwr, hbel, hn1⟩, hst⟩ := hA
    have hnum : fLa k < fT k ∧ fT k ≤ 200 ∧ 0 ≤ fT k ∧ ((fZ n k).length : Int) ≤ fLe k ∧ fLe k ≤ 16384 ∧ 0 < (fZ n k).length ∧ (fZ n k).length ≤ 3 ∧ fs.length ≤ 1 ∧ fS n (k + 1) = fS n k ++ [(fT k, fZ n k)] ∧ fLa (k + 1) = fT k ∧ fLe (k + 1) = fLe k - ((fZ n k).length : Int) ∧ Reads .u8 Wc (.slice (some ⟨g, fO o k, none⟩) (fZ n k).length (fC c k)) (fZ n k) := by
      have hl := congrArg List.length hsp
      rw [List.length_map] at hl
      obtain ⟨-, hbd⟩ := hst
      rcases k with _ | _ | k
      · refine ⟨by simp [fLa, fT], by simp [fT], by simp [fT], by simp [fZ, fLe], by simp [fLe], by simp [fZ], by simp [fZ], by rw [hl]; simp [fS], rfl, rfl, by simp [fLe, fZ], ?_⟩
        have := hbd 2 (by omega)
        simp [bodyR] at this
        exact reads_one_o_ this
      · refine ⟨by simp [fLa, fT], by simp [fT], by simp [fT], by simp [fZ, fLe], by simp [fLe], by simp [fZ], by simp [fZ], by rw [hl]; simp [fS], rfl, rfl, by simp [fLe, fZ], ?_⟩
        refine .inr ⟨g, o + 5, _, rfl, by unfold maxLen; simp [fZ], fun i hi => ?_⟩
        have := hbd (5 + i) (by simp [fZ] at hi; omega)
        rw [← Nat.add_assoc] at this
        rw [this]
        simp [fZ] at hi
        rcases i with _ | _ | _ | i
        · rfl
        · rfl
        · rfl
        · omega
      · omega
    obtain ⟨a1, a2, a3, a4, a5, a6, a7, a8, a9, a10, a11, hrd⟩ := hnum
    obtain ⟨p0, p1, -, -⟩ := pair_cells_ hP
    have q0 := cell_of_heap_ ho1
    have q1 := cell_of_heap_ hla
    have q2 := cell_of_heap_ hle
    have f0 : Wc.frozen? ⟨W.heap.size, 0, none⟩ = false := by simp [World.frozen?, ho1]
    have f1 : Wc.frozen? ⟨W.heap.size + 1, 0, none⟩ = false := by simp [World.frozen?, hla]
    have f2 : Wc.frozen? ⟨W.heap.size + 1 + 1, 0, none⟩ = false := by simp [World.frozen?, hle]
    obtain ⟨va, vc, e⟩ := ownsRow_form hfo.1
    subst e
    have HNP := Lib.hid (hnp _ ho1)
    clear hnp
    have HP := Lib.hid hP
    have HO1 := Lib.hid ho1
    have HFO := Lib.hid hfo
    have HSP := Lib.hid hsp
    have HLA := Lib.hid hla
    have HLE := Lib.hid hle
    have HWR := Lib.hid hwr
    have HBEL := Lib.hid hbel
    have HSTK := Lib.hid hst
    have HRD := Lib.hid hrd
    have HS1 := Lib.hid a9
    have HLA1 := Lib.hid a10
    have HLE1 := Lib.hid a11
    clear hP ho1 hfo hsp hla hle hwr hbel hst hrd a9 a10 a11
    generalize fT k = t at *
    generalize hzz : fZ n k = zs at *
    generalize hml : zs.length = m at *
    have HML := Lib.hid hml
    have HZZ := Lib.hid hzz
    clear hml hzz
    generalize fLa k = la at *
    generalize fLe k = le at *
    generalize fO o k = oo at *
    generalize fC c k = cc at *
    generalize hN : W.heap.size = N at *
    have HN := Lib.hid hN
    clear hN
    generalize hfl : fs.length = fl at *
    have HFL := Lib.hid hfl
    clear hfl
    have hflI : (fl : Int) ≤ 1 := by omega
    have w1 : IntKind.i64.wrap (le - (m : Int)) = le - (m : Int) := by rw [IntKind.wrap_i64]; omega
    gi_wp2
    have hP1 : ¬ P = N + 1 := by omega
    have hP2 : ¬ P = N + 1 + 1 := by omega
    refine region_in_round (by kernel_rfl) (by rintro ⟨a, w, h⟩; exact h) (by kernel_rfl) ?_
    have hHeld : (fun w' : World => w'.cell? ⟨P, 0, none⟩ = some (.int .i64 t) ∧ w'.cell? ⟨P, 1, none⟩ = some (.slice (some ⟨g, oo, none⟩) m cc) ∧ w'.cell? ⟨N + 1 + 1, 0, none⟩ = some (.int .i64 le)) Wc.drew := ⟨p0, p1, q2⟩
    refine Held.wpAny_of_wpT (S := fun w' : World => w'.cell? ⟨P, 0, none⟩ = some (.int .i64 t) ∧ w'.cell? ⟨P, 1, none⟩ = some (.slice (some ⟨g, oo, none⟩) m cc) ∧ w'.cell? ⟨N + 1 + 1, 0, none⟩ = some (.int .i64 le)) (s := 8) _ _ _ _ ?_
    (refine Held.wpT_takeY (i := 0) (oi := { dst := Option.some 40, op := Go.Op.fieldAddr 141 (Go.Operand.tmp 10) 0, type := 0, pos := "field.go:97", after := #[], guard := Option.none }) (v := ?_) rfl (by decide) (by kernel_rfl) (by decide +kernel) (by decide +kernel) (fun _ _ _ h => h) (Or.inl ⟨by rfl, ?_⟩) (by assumption) ?_; rotate_left; (focus (intro w; go_simp; try with_reducible rfl)); simp only [Act.put, List.setIfInBounds_toArray, List.set_cons_zero, List.set_cons_succ])
    (refine Held.wpT_takeY (i := 3) (oi := { dst := Option.some 43, op := Go.Op.fieldAddr 141 (Go.Operand.tmp 10) 1, type := 0, pos := "field.go:97", after := #[], guard := Option.none }) (v := ?_) rfl (by decide) (by kernel_rfl) (by decide +kernel) (by decide +kernel) (fun _ _ _ h => h) (Or.inl ⟨by rfl, ?_⟩) (by assumption) ?_; rotate_left; (focus (intro w; go_simp; try with_reducible rfl)); simp only [Act.put, List.setIfInBounds_toArray, List.set_cons_zero, List.set_cons_succ])
    (refine Held.wpT_take (i := 1) (oi := { dst := Option.some 41, op := Go.Op.load 3 (Go.Operand.tmp 40), type := 3, pos := "field.go:97", after := #[{ on := 0, ground := Go.Ground.data }], guard := Option.none }) (v := ?_) rfl rfl (by kernel_rfl) (by decide) (by kernel_rfl) (by kernel_rfl) (by kernel_rfl) (fun _ _ _ h => h) (Or.inl ⟨by rfl, ?_⟩) (by assumption) ?_; rotate_left; (focus (intro w hSw; (try dsimp only at hSw); go_simp; try with_reducible rfl)); simp only [Act.put, List.setIfInBounds_toArray, List.set_cons_zero, List.set_cons_succ])
    (refine Held.wpT_take (i := 2) (oi := { dst := Option.some 42, op := Go.Op.load 3 (Go.Operand.tmp 7), type := 3, pos := "field.go:97", after := #[], guard := Option.none }) (v := ?_) rfl rfl (by kernel_rfl) (by decide) (by kernel_rfl) (by kernel_rfl) (by kernel_rfl) (fun _ _ _ h => h) (Or.inl ⟨by rfl, ?_⟩) (by assumption) ?_; rotate_left; (focus (intro w hSw; (try dsimp only at hSw); go_simp; try with_reducible rfl)); simp only [Act.put, List.setIfInBounds_toArray, List.set_cons_zero, List.set_cons_succ])
    (refine Held.wpT_take (i := 4) (oi := { dst := Option.some 44, op := Go.Op.load 25 (Go.Operand.tmp 43), type := 25, pos := "field.go:97", after := #[{ on := 3, ground := Go.Ground.data }], guard := Option.none }) (v := ?_) rfl rfl (by kernel_rfl) (by decide) (by kernel_rfl) (by kernel_rfl) (by kernel_rfl) (fun _ _ _ h => h) (Or.inl ⟨by rfl, ?_⟩) (by assumption) ?_; rotate_left; (focus (intro w hSw; (try dsimp only at hSw); go_simp; try with_reducible rfl)); simp only [Act.put, List.setIfInBounds_toArray, List.set_cons_zero, List.set_cons_succ])
    (refine Held.wpT_takeY (i := 5) (oi := { dst := Option.some 45, op := Go.Op.call { callee := Go.Callee.builtin Go.Builtin.len, args := #[Go.Operand.tmp 44], argTypes := #[25] }, type := 3, pos := "field.go:97", after := #[{ on := 4, ground := Go.Ground.data }], guard := Option.none }) (v := ?_) rfl (by decide) (by kernel_rfl) (by decide +kernel) (by decide +kernel) (fun _ _ _ h => h) (Or.inl ⟨by rfl, ?_⟩) (by assumption) ?_; rotate_left; (focus (intro w; go_simp; try with_reducible rfl)); simp only [Act.put, List.setIfInBounds_toArray, List.set_cons_zero, List.set_cons_succ])
    (refine Held.wpT_takeY (i := 6) (oi := { dst := Option.some 46, op := Go.Op.binOp Go.BinOp.sub 3 (Go.Operand.tmp 42) (Go.Operand.tmp 45) 3, type := 3, pos := "field.go:97", after := #[{ on := 2, ground := Go.Ground.data }, { on := 5, ground := Go.Ground.data }], guard := Option.none }) (v := ?_) rfl (by decide) (by kernel_rfl) (by decide +kernel) (by decide +kernel) (fun _ _ _ h => h) (Or.inl ⟨by rfl, ?_⟩) (by assumption) ?_; rotate_left; (focus (intro w; go_simp; try with_reducible rfl)); simp only [Act.put, List.setIfInBounds_toArray, List.set_cons_zero, List.set_cons_succ])
    refine Held.wpT_ready (rs := [7]) (by decide +kernel) (by simp) (Held.AllT.cons (i := 7) (o := { dst := Option.none, op := Go.Op.store 3 (Go.Operand.tmp 6) (Go.Operand.tmp 41), type := 0, pos := "field.go:97", after := #[{ on := 1, ground := Go.Ground.data }, { on := 0, ground := Go.Ground.phase }, { on := 1, ground := Go.Ground.phase }, { on := 2, ground := Go.Ground.textOnly Go.Departure.inlinedCapture }, { on := 3, ground := Go.Ground.textOnly Go.Departure.lateStores }, { on := 4, ground := Go.Ground.textOnly Go.Departure.lateStores }, { on := 5, ground := Go.Ground.textOnly Go.Departure.lateStoresUnsure }, { on := 6, ground := Go.Ground.textOnly Go.Departure.inlinedCapture }], guard := Option.none }) rfl (by decide) (fun K hK => ?_) Held.AllT.nil)
    (go_simp)
    (refine hK.out _ _ (by exact ⟨(mod_set_ Wc (N + 1) 0 _).cell hP1 p0, (mod_set_ Wc (N + 1) 0 _).cell hP1 p1, (mod_set_ Wc (N + 1) 0 _).cell (by show ¬ (N + 1 + 1 = N + 1); omega) q2⟩) (fun hH2 => ?_); replace hHeld := hH2; clear hH2 hK K; try simp only [Act.put, List.setIfInBounds_toArray, List.set_cons_zero, List.set_cons_succ])
    (refine Held.wpT_ready (rs := [8]) (by kernel_rfl) (by simp) (Held.AllT.stop (o := { dst := Option.none, op := Go.Op.store 3 (Go.Operand.tmp 7) (Go.Operand.tmp 46), type := 0, pos := "field.go:97", after := #[{ on := 6, ground := Go.Ground.data }, { on := 7, ground := Go.Ground.chain }, { on := 0, ground := Go.Ground.phase }, { on := 1, ground := Go.Ground.phase }, { on := 2, ground := Go.Ground.phase }, { on := 3, ground := Go.Ground.phase }, { on := 4, ground := Go.Ground.phase }, { on := 5, ground := Go.Ground.phase }, { on := 6, ground := Go.Ground.phase }, { on := 7, ground := Go.Ground.phase }], guard := Option.none }) rfl (fun K hK => ?_)); clear hHeld; go_simp; refine hK.out _ _ ?_; clear hK K; try simp only [Act.put, List.setIfInBounds_toArray, List.set_cons_zero, List.set_cons_succ])
    refine wpAny_done (by kernel_rfl) ?_ _
    have hmA := mod_set_ Wc (N + 1) 0 (.int .i64 t)
    have hmB := mod_set_ (Wc.setCell ⟨N + 1, 0, none⟩ (.int .i64 t)) (N + 1 + 1) 0 (.int .i64 (le - (m : Int)))
    have hLA2 : ((Wc.setCell ⟨N + 1, 0, none⟩ (.int .i64 t)).setCell ⟨N + 1 + 1, 0, none⟩ (.int .i64 (le - (m : Int)))).heap[N + 1]? = some (.cells #[.int .i64 t] 3) := hmB.heap (by have := heap_set_ HLA.out 0 (.int .i64 t); simpa using this) (by omega)
    have hLE2 : ((Wc.setCell ⟨N + 1, 0, none⟩ (.int .i64 t)).setCell ⟨N + 1 + 1, 0, none⟩ (.int .i64 (le - (m : Int)))).heap[N + 1 + 1]? = some (.cells #[.int .i64 (le - (m : Int))] 3) := by
      have := heap_set_ (hmA.heap HLE.out (by omega)) 0 (.int .i64 (le - (m : Int)))
      simpa using this
    have hmt : Mod (fun q => q = N + 1 ∨ q = N + 1 + 1) Wc ((Wc.setCell ⟨N + 1, 0, none⟩ (.int .i64 t)).setCell ⟨N + 1 + 1, 0, none⟩ (.int .i64 (le - (m : Int)))) := (hmA.mono (fun _ _ h => .inl h)).trans (hmB.mono (fun _ _ h => .inr h))
    obtain ⟨W2, hW2⟩ : ∃ W2, W2 = ((Wc.setCell ⟨N + 1, 0, none⟩ (.int .i64 t)).setCell ⟨N + 1 + 1, 0, none⟩ (.int .i64 (le - (m : Int)))).drew := ⟨_, rfl⟩
    have HMT : Hid (Mod (fun q => q = N + 1 ∨ q = N + 1 + 1) Wc W2) := by rw [hW2]; exact hmt.drew
    have HLA2 : Hid (W2.heap[N + 1]? = some (.cells #[.int .i64 t] 3)) := by rw [hW2]; exact hLA2
    have HLE2 : Hid (W2.heap[N + 1 + 1]? = some (.cells #[.int .i64 (le - (m : Int))] 3)) := by rw [hW2]; exact hLE2
    rw [← hW2]
    clear hmA hmB hLA2 hLE2 hmt hW2 p0 p1 q0 q1 q2 f0 f1 f2
    have hsz2 : Wc.heap.size ≤ W2.heap.size := HMT.out.size
    have hNlt : N < Wc.heap.size := (Array.getElem?_eq_some_iff.1 HO1.out).1
    have HP2 := Lib.hid (HMT.out.heap HP.out (by omega))
    have HO2 := Lib.hid (HMT.out.heap HO1.out (by omega))
    have HWR2 := Lib.hid (HMT.out.heap HWR.out (by omega))
    have HFO2 := Lib.hid (HFO.out.mod HMT.out (fun q hq => by omega))
    have HST2 := Lib.hid (HSTK.out.keep HMT.out (by omega) (by omega))
    have HRD2 := Lib.hid (HRD.out.mod HMT.out (by
      intro b hb
      have : g = b := by simpa [Value.ownBlock] using hb
      omega))
    obtain ⟨p0, p1, -, -⟩ := pair_cells_ HP2.out
    have q0 := cell_of_heap_ HO2.out
    have f0 : W2.frozen? ⟨N, 0, none⟩ = false := by simp [World.frozen?, HO2.out]
    have hnN : ¬ some N = (Value.slice va fl vc).ownBlock := own_other_ HFO2.out.1 HO2.out (by decide)
    gi_wp2
    refine region_in_round (by kernel_rfl) (by rintro ⟨a, w, h⟩; exact h) (by kernel_rfl) ?_
    have hHeld : (fun w' : World => w'.cell? ⟨P, 0, none⟩ = some (.int .i64 t) ∧ w'.cell? ⟨P, 1, none⟩ = some (.slice (some ⟨g, oo, none⟩) m cc) ∧ w'.cell? ⟨N, 0, none⟩ = some (.slice va fl vc)) W2.drew := ⟨p0, p1, q0⟩
    refine Held.wpAny_of_wpT (S := fun w' : World => w'.cell? ⟨P, 0, none⟩ = some (.int .i64 t) ∧ w'.cell? ⟨P, 1, none⟩ = some (.slice (some ⟨g, oo, none⟩) m cc) ∧ w'.cell? ⟨N, 0, none⟩ = some (.slice va fl vc)) (s := 9) _ _ _ _ ?_
    (refine Held.wpT_takeY (i := 1) (oi := { dst := Option.some 48, op := Go.Op.fieldAddr 141 (Go.Operand.tmp 10) 0, type := 0, pos := "field.go:98", after := #[], guard := Option.none }) (v := ?_) rfl (by decide) (by kernel_rfl) (by decide +kernel) (by decide +kernel) (fun _ _ _ h => h) (Or.inl ⟨by rfl, ?_⟩) (by assumption) ?_; rotate_left; (focus (intro w; go_simp; try with_reducible rfl)); simp only [Act.put, List.setIfInBounds_toArray, List.set_cons_zero, List.set_cons_succ])
    (refine Held.wpT_takeY (i := 3) (oi := { dst := Option.some 50, op := Go.Op.fieldAddr 141 (Go.Operand.tmp 10) 1, type := 0, pos := "field.go:98", after := #[], guard := Option.none }) (v := ?_) rfl (by decide) (by kernel_rfl) (by decide +kernel) (by decide +kernel) (fun _ _ _ h => h) (Or.inl ⟨by rfl, ?_⟩) (by assumption) ?_; rotate_left; (focus (intro w; go_simp; try with_reducible rfl)); simp only [Act.put, List.setIfInBounds_toArray, List.set_cons_zero, List.set_cons_succ])
    (refine Held.wpT_take (i := 0) (oi := { dst := Option.some 47, op := Go.Op.load 137 (Go.Operand.tmp 5), type := 137, pos := "field.go:98", after := #[], guard := Option.none }) (v := ?_) rfl rfl (by kernel_rfl) (by decide) (by kernel_rfl) (by kernel_rfl) (by kernel_rfl) (fun _ _ _ h => h) (Or.inl ⟨by rfl, ?_⟩) (by assumption) ?_; rotate_left; (focus (intro w hSw; (try dsimp only at hSw); go_simp; try with_reducible rfl)); simp only [Act.put, List.setIfInBounds_toArray, List.set_cons_zero, List.set_cons_succ])
    (refine Held.wpT_take (i := 2) (oi := { dst := Option.some 49, op := Go.Op.load 3 (Go.Operand.tmp 48), type := 3, pos := "field.go:98", after := #[{ on := 1, ground := Go.Ground.data }], guard := Option.none }) (v := ?_) rfl rfl (by kernel_rfl) (by decide) (by kernel_rfl) (by kernel_rfl) (by kernel_rfl) (fun _ _ _ h => h) (Or.inl ⟨by rfl, ?_⟩) (by assumption) ?_; rotate_left; (focus (intro w hSw; (try dsimp only at hSw); go_simp; try with_reducible rfl)); simp only [Act.put, List.setIfInBounds_toArray, List.set_cons_zero, List.set_cons_succ])
    (refine Held.wpT_take (i := 4) (oi := { dst := Option.some 51, op := Go.Op.load 25 (Go.Operand.tmp 50), type := 25, pos := "field.go:98", after := #[{ on := 3, ground := Go.Ground.data }], guard := Option.none }) (v := ?_) rfl rfl (by kernel_rfl) (by decide) (by kernel_rfl) (by kernel_rfl) (by kernel_rfl) (fun _ _ _ h => h) (Or.inl ⟨by rfl, ?_⟩) (by assumption) ?_; rotate_left; (focus (intro w hSw; (try dsimp only at hSw); go_simp; try with_reducible rfl)); simp only [Act.put, List.setIfInBounds_toArray, List.set_cons_zero, List.set_cons_succ])
    refine Held.wpT_ready (rs := [5]) (by decide +kernel) (by simp) (Held.AllT.cons (i := 5) (o := { dst := Option.some 52, op := Go.Op.call { callee := Go.Callee.value (Go.Operand.func 80), args := #[Go.Operand.tmp 51], argTypes := #[25] }, type := 25, pos := "field.go:98", after := #[{ on := 4, ground := Go.Ground.data }], guard := Option.none }) rfl (by decide) (fun K hK => ?_) Held.AllT.nil)
    (go_simp; go_at_call 80; refine (sClone_bytes _ zs _ (by exact HRD2.out) (by rw [HML.out]; omega) (by rw [HML.out]; omega)).mono ?_; rintro e y1 ⟨v1, rfl, hov, hb1⟩; rw [HML.out] at hov; obtain ⟨v1a, v1c, e1⟩ := ownsRow_form hov; subst e1; have HY1 : Hid (Mod (fun _ => False) W2 y1) := Mod.of_same (below_step_ (by repeat (first | exact Below.refl _ _ | refine below_drew_ ?_ | refine below_alloc_ ?_ _)) hb1); have HV1 := Lib.hid (ownsRow_base hov (base' := N + 5) (by show N + 5 ≤ W2.heap.size; omega)); clear hov hb1; try dsimp only)
    (refine hK.out _ _ (by exact ⟨HY1.out.cell (by simp) p0, HY1.out.cell (by simp) p1, HY1.out.cell (by simp) q0⟩) (fun hH2 => ?_); replace hHeld := hH2; clear hH2 hK K; try simp only [Act.put, List.setIfInBounds_toArray, List.set_cons_zero, List.set_cons_succ])
    (refine Held.wpT_takeY (i := 6) (oi := { dst := Option.some 53, op := Go.Op.build 141 #[(0, Go.Operand.tmp 49), (1, Go.Operand.tmp 52)], type := 141, pos := "field.go:98", after := #[{ on := 2, ground := Go.Ground.data }, { on := 5, ground := Go.Ground.data }], guard := Option.none }) (v := ?_) rfl (by decide) (by kernel_rfl) (by decide +kernel) (by decide +kernel) (fun _ _ _ h => h) (Or.inl ⟨by rfl, ?_⟩) (by assumption) ?_; rotate_left; (focus (intro w; go_simp; try with_reducible rfl)); simp only [Act.put, List.setIfInBounds_toArray, List.set_cons_zero, List.set_cons_succ])
    refine Held.wpT_ready (rs := [7]) (by decide +kernel) (by simp) (Held.AllT.cons (i := 7) (o := { dst := Option.some 54, op := Go.Op.buildSlice 137 1 #[(0, Go.Operand.tmp 53)], type := 137, pos := "field.go:98", after := #[{ on := 6, ground := Go.Ground.data }], guard := Option.none }) rfl (by decide) (fun K hK => ?_) Held.AllT.nil)
    (go_simp)
    (refine hK.out _ _ (by exact ⟨((Mod.refl (fun _ => False) y1).alloc _).cell (by simp) (HY1.out.cell (by simp) p0), ((Mod.refl (fun _ => False) y1).alloc _).cell (by simp) (HY1.out.cell (by simp) p1), ((Mod.refl (fun _ => False) y1).alloc _).cell (by simp) (HY1.out.cell (by simp) q0)⟩) (fun hH2 => ?_); replace hHeld := hH2; clear hH2 hK K; try simp only [Act.put, List.setIfInBounds_toArray, List.set_cons_zero, List.set_cons_succ])
    refine Held.wpT_ready (rs := [8]) (by decide +kernel) (by simp) (Held.AllT.cons (i := 8) (o := { dst := Option.some 55, op := Go.Op.call { callee := Go.Callee.builtin Go.Builtin.append, args := #[Go.Operand.tmp 47, Go.Operand.tmp 54], argTypes := #[137, 137] }, type := 137, pos := "field.go:98", after := #[{ on := 0, ground := Go.Ground.data }, { on := 7, ground := Go.Ground.data }, { on := 5, ground := Go.Ground.chain }], guard := Option.none }) rfl (by decide) (fun K hK => ?_) Held.AllT.nil)
    (refine step_append_lies _ (by rfl) _ _ _ (by rfl) (N + 5) 141 i1 _ 2 32 Tryz.underlying137 hi hz0 hz1 hz2 rfl (by omega) (.slice va fl vc) fl (fCells fs) (by rfl) ((FieldsOwn.mod HFO2.out HY1.out (fun _ _ h => h)).1.alloc _ |> fun h => by rw [HFL.out] at h; exact h) ⟨y1.heap.size, 0, none⟩ 1 1 [.int .i64 t, .slice v1a m v1c] (by rfl) (by rfl) (news_two_ (by simp) (by simp)) (by simp [Value.oneCell']) (by omega) (by unfold maxLen; omega) (by omega) (by have := HY1.out.size; simp; omega) _ (by rfl) ?_; intro g3 c3 w3 hown3 hgrow3 hat3 hlt3; have HO3 := Lib.hid hown3; have hgr3 : (y1.alloc (.cells #[.int .i64 t, .slice v1a m v1c] 141)).grownBy w3 (Value.slice va fl vc).ownBlock := hgrow3; have HM3 := Lib.hid (((Mod.refl _ y1).alloc _).trans (Mod.of_grownBy hgr3)); clear hown3 hgrow3 hat3 hlt3 hgr3)
    (refine hK.out _ _ (by exact ⟨HM3.out.cell HNP.out (HY1.out.cell (by simp) p0), HM3.out.cell HNP.out (HY1.out.cell (by simp) p1), HM3.out.cell hnN (HY1.out.cell (by simp) q0)⟩) (fun hH2 => ?_); replace hHeld := hH2; clear hH2 hK K; try simp only [Act.put, List.setIfInBounds_toArray, List.set_cons_zero, List.set_cons_succ])
    have q9 := HM3.out.cell hnN (HY1.out.cell (by simp) q0)
    have f9 : w3.frozen? ⟨N, 0, none⟩ = false := ((HM3.out.frozen (p := ⟨N, 0, none⟩) (by have := HY1.out.size; show N < y1.heap.size; omega) hnN).trans (HY1.out.frozen (p := ⟨N, 0, none⟩) (by show N < W2.heap.size; omega) (by simp))).trans f0
    (refine Held.wpT_ready (rs := [9]) (by kernel_rfl) (by simp) (Held.AllT.stop (o := { dst := Option.none, op := Go.Op.store 137 (Go.Operand.tmp 5) (Go.Operand.tmp 55), type := 0, pos := "field.go:98", after := #[{ on := 8, ground := Go.Ground.data }, { on := 8, ground := Go.Ground.chain }, { on := 0, ground := Go.Ground.phase }, { on := 1, ground := Go.Ground.phase }, { on := 2, ground := Go.Ground.phase }, { on := 3, ground := Go.Ground.phase }, { on := 4, ground := Go.Ground.phase }, { on := 5, ground := Go.Ground.phase }, { on := 6, ground := Go.Ground.phase }, { on := 7, ground := Go.Ground.phase }, { on := 8, ground := Go.Ground.phase }], guard := Option.none }) rfl (fun K hK => ?_)); clear hHeld; go_simp; refine hK.out _ _ ?_; clear hK K; try simp only [Act.put, List.setIfInBounds_toArray, List.set_cons_zero, List.set_cons_succ])
    refine wpAny_done (by kernel_rfl) ?_ _
    gi_wp2
    have hQN : w3.heap[N]? = some (.cells #[.slice va fl vc] 137) := HM3.out.heap (HY1.out.heap HO2.out (by simp)) hnN
    have hms := mod_set_ w3 N 0 (.slice (some ⟨g3, 0, none⟩) (fl + 1) c3)
    have hQN9 := heap_set_ hQN 0 (.slice (some ⟨g3, 0, none⟩) (fl + 1) c3)
    have hge : ∀ q, some q = (Value.slice va fl vc).ownBlock → N + 5 ≤ q := fun q h => ownBlock_ge_ HFO2.out.1 h.symm
    have hm2 : Mod (fun q => some q = (Value.slice va fl vc).ownBlock ∨ q = N) W2 (w3.setCell ⟨N, 0, none⟩ (.slice (some ⟨g3, 0, none⟩) (fl + 1) c3)) := ((HY1.out.mono (by simp)).trans (HM3.out.mono (fun _ _ h => .inl h))).trans (hms.mono (fun _ _ h => .inr h))
    have hm0 : Mod (fun q => (q = N + 1 ∨ q = N + 1 + 1) ∨ some q = (Value.slice va fl vc).ownBlock ∨ q = N) Wc (w3.setCell ⟨N, 0, none⟩ (.slice (some ⟨g3, 0, none⟩) (fl + 1) c3)) := (HMT.out.mono (fun _ _ h => .inl h)).trans (hm2.mono (fun _ _ h => .inr h))
    have hrow := owns_keep_at_ HO3.out hQN hms (by decide)
    have HV3 := owns_keep_at_ (owns_keep_ HV1.out (FieldsOwn.mod HFO2.out HY1.out (fun _ _ h => h)).1 HM3.out (by decide)) hQN hms (by decide)
    have hFl := HFL.out
    refine ⟨keepsFrom_mod_ hm0 ?_, ⟨⟨.slice (some ⟨g3, 0, none⟩) (fl + 1) c3, fs ++ [(t, .slice v1a m v1c, zs)], by simpa using hQN9, ⟨?_, ?_⟩, ?_⟩, ?_, ?_, ?_, ?_, ?_⟩, ?_⟩
    · rintro q o1 hq ((h | h) | h | h) ho
      · have := HS5.out; omega
      · have := HS5.out; omega
      · exact own_isCells_ HFO.out.1 h ho
      · have := HS5.out; omega
    · rw [show (fs ++ [(t, Value.slice v1a m v1c, zs)]).length = fl + 1 by simp [hFl], show fCells (fs ++ [(t, Value.slice v1a m v1c, zs)]) = fCells fs ++ [.int .i64 t, .slice v1a m v1c] by simp [fCells]]
      exact hrow
    · intro f hf
      rcases List.mem_append.1 hf with hf | hf
      · exact owns_keep_at_ (owns_keep_ (ownsRow_mod (HFO2.out.2 f hf) HY1.out (by simp)) (FieldsOwn.mod HFO2.out HY1.out (fun _ _ h => h)).1 HM3.out (by decide)) hQN hms (by decide)
      · obtain rfl := List.mem_singleton.1 hf
        show World.ownsRow _ (N + 5) 5 1 (.slice v1a m v1c) zs.length (u8s zs)
        rw [HML.out]
        exact HV3
    · rw [List.map_append, HSP.out, HS1.out]
      rfl
    · rw [HLA1.out]
      exact hm2.heap HLA2.out (by rintro (h | h); have := hge _ h; omega; omega)
    · rw [HLE1.out]
      exact hm2.heap HLE2.out (by rintro (h | h); have := hge _ h; omega; omega)
    · exact hm2.heap HWR2.out (by rintro (h | h); have := hge _ h; omega; omega)
    · exact HBEL.out.trans (hm0.below (by omega) (by rintro q hq ((h | h) | h | h); omega; omega; have := hge _ h; omega; omega))
    · exact Nat.le_trans hn1 hm0.size
    · exact HSTK.out.keep hm0 (by rintro ((h | h) | h | h); omega; omega; have := hge _ h; omega; omega) (by rintro ((h | h) | h | h); omega; omega; have := hge _ h; omega; omega)
  case done =>
    intro D Wc hD hI' hS hK
    obtain ⟨⟨vo, fs, ho1, hfo, hsp⟩, -, -, hwr, hbel, hn1⟩ := hI'
    have q0 := cell_of_heap_ ho1
    have q3 := cell_of_heap_ hwr
    have hNlt : W.heap.size < Wc.heap.size := (Array.getElem?_eq_some_iff.1 ho1).1
    have HFO := Lib.hid hfo
    have HSP := Lib.hid hsp
    have HBEL := Lib.hid hbel
    have HK := Lib.hid hK
    clear ho1 hfo hsp hwr hbel hK
    simp only [Exit.inBlock, Exit.then]
    go_wp2_with fail
    rw [Exit.noGoto_ret]
    refine ⟨by simp, .inl ⟨_, _, rfl, run_takeDeferred HK.out, ?_⟩⟩
    have hmp := mod_put_ Wc D (.deferred none)
    have hsp := HSP.out
    rcases fs with _ | ⟨⟨t1, v1, z1⟩, _ | ⟨⟨t2, v2, z2⟩, _ | ⟨f3, fs⟩⟩⟩
    · simp [fS] at hsp
    · simp [fS] at hsp
    · simp [fS] at hsp
      obtain ⟨⟨rfl, rfl⟩, rfl, rfl⟩ := hsp
      have hfo := HFO.out
      refine ⟨_, results_tmp3 rfl _ _ _, vo, v1, v2, rfl, ⟨ownsRow_base (ownsRow_putObj hfo.1 _ HK.out rfl) (by omega), fun f hf => ownsRow_base (ownsRow_putObj (hfo.2 f hf) _ HK.out rfl) (by omega)⟩, HBEL.out.trans (hmp.below (by omega) (fun q hq e => by have := HS5.out; omega))⟩
    · simp [fS] at hsp
end Resp
end Go.Proofs.YtdfmgneicdpjmaaGreat

/- slices.Equal over bytes; response.Read of what response.Write made. -/
namespace Go.Proofs.YtdfmgneicdpjmaaGreat
open Go.RowKit Go.Shelf
set_option linter.unusedVariables false
set_option linter.unusedSimpArgs false
set_option maxRecDepth 100000
namespace Resp

theorem below_drewN_ {B : Nat} {a w : World} (h : Below B a w) : ∀ k, Below B a (w.drewN k)
  | 0 => h
  | k + 1 => ⟨(below_drewN_ h k).os, (below_drewN_ h k).tape, (below_drewN_ h k).output, (below_drewN_ h k).size, (below_drewN_ h k).block⟩
set_option maxHeartbeats 1000000 in
theorem EqualB_same (a a' : Option Addr) (n c c' : Nat) (zs : List Int) (w : World) (h : Reads .u8 w (.slice a n c) zs) (h' : Reads .u8 w (.slice a' n c') zs) (hn : zs.length = n) (hl : n ≤ 1000) :
    Calls Tryz.prog 88 #[.slice a n c, .slice a' n c'] w fun e w' => e = .returned (.bool true) ∧ Below w.heap.size w w' := by
  go_enter Tryz.func88, Tryz.ntmps88
  have HR := Lib.hid h
  have HR' := Lib.hid h'
  have HN := Lib.hid hn
  have hlI : (n : Int) ≤ 1000 := by omega
  clear h h' hn
  go_wp2_with fail
  go_loopw [5, 13] (fun j i wr => ∃ k : Nat, k ≤ n ∧ i = .int .i64 k ∧ Below w.heap.size w wr) (fun _ i _ => n - (intOf i).toNat)
  case atStart => exact ⟨0, Nat.zero_le _, rfl, Below.refl _ _⟩
  case round =>
    obtain ⟨k, hk, rfl, hb⟩ := hrel
    by_cases hlt : k < n
    · have hltI : (k : Int) < n := by omega
      rcases HR.out with ⟨a2, c2, e2, e3⟩ | ⟨b, o, c2, e2, hl2, hc⟩
      · have := HN.out; rw [e3] at this; simp at this; omega
      · rcases HR'.out with ⟨a3, c3, e3, e4⟩ | ⟨b', o', c3, e3, hl3, hc'⟩
        · have := HN.out; rw [e4] at this; simp at this; omega
        · rw [HN.out] at e2 e3
          cases e2
          cases e3
          have hm : Mod (fun _ => False) w wr := Mod.of_same hb
          have g1 := hm.cell (by simp) (hc k (by have := HN.out; omega))
          have g2 := hm.cell (by simp) (hc' k (by have := HN.out; omega))
          clear hc hc' hm
          have HB := Lib.hid hb
          clear hb
          generalize zs[k]?.getD 0 = z at *
          go_wp2_with fail
          go_quiet (fail)
          go_wp2_with fail
          exact ⟨⟨k + 1, by omega, by simp, below_drewN_ HB.out nq⟩, by simp [intOf]; omega⟩
    · go_wp2_with fail
      go_ret
      exact ⟨rfl, hb⟩
theorem owns_cells_pos_ {W : World} {base : Nat} {e : TypeId} {size : Nat} {v : Value} {k : Nat} {xs : List Value} (h : W.ownsRow base e size v k xs) (hk : 0 < k) : ∃ g c, v = .slice (some ⟨g, 0, none⟩) k c ∧ k ≤ c ∧ base ≤ g ∧ ∀ i u, xs[i]? = some u → W.cell? ⟨g, i, none⟩ = some u := by
  rcases h.2 with ⟨rfl, rfl⟩ | ⟨g', cap, cur, rfl, hb, hg, hc, hm, hs, ht⟩
  · exact absurd hk (Nat.lt_irrefl _)
  · refine ⟨g', cap, rfl, hc, hb, fun i u hu => ?_⟩
    rw [← ht] at hu
    rw [List.getElem?_take] at hu
    split at hu
    · simp [World.cell?, hg]; simpa using hu
    · cases hu
theorem infoRsp : (Tryz.prog.info? 76).map (·.size) = some 15 := by kernel_rfl
theorem rsp_row_ {W : World} {B n : Nat} (h : RC W B 0 0) : (Instr.storeAt 76 (.pointer (some ⟨B, 0, none⟩)) (.agg #[.int .i64 (n : Int), .int .i64 341, .int .i64 0, .int .i64 0, .int .i64 0, .int .u8 0, .bool false, .int .i64 0, .int .i64 0, .int .i64 0, .slice none 0 0, .slice none 0 0, .slice none 0 0, .slice none 0 0, .slice none 0 0])).run Tryz.prog W = .ok () (W.setRow B #[.int .i64 (n : Int), .int .i64 341, .int .i64 0, .int .i64 0, .int .i64 0, .int .u8 0, .bool false, .int .i64 0, .int .i64 0, .int .i64 0, .slice none 0 0, .slice none 0 0, .slice none 0 0, .slice none 0 0, .slice none 0 0]) := by
  simp only [Instr.storeAt, Instr.sureAddr, Sem.run_bind, Sem.run_pure, Result.andThen]
  exact run_storeVar_row W B 76 76 #[.int .i64 0, .int .i64 0, .int .i64 0, .int .i64 0, .int .i64 0, .int .u8 0, .bool false, .int .i64 0, .int .i64 0, .int .i64 0, .slice none 0 0, .slice none 0 0, .slice none 0 0, .slice none 0 0, .slice none 0 0] #[.int .i64 (n : Int), .int .i64 341, .int .i64 0, .int .i64 0, .int .i64 0, .int .u8 0, .bool false, .int .i64 0, .int .i64 0, .int .i64 0, .slice none 0 0, .slice none 0 0, .slice none 0 0, .slice none 0 0, .slice none 0 0] h infoRsp rfl (by simp [Value.oneCell'])
theorem rsp_ld_ {W : World} {B n : Nat} (h : RC W B (n : Int) 341) : (Instr.loadAt 76 (.pointer (some ⟨B, 0, none⟩))).run Tryz.prog W = .ok (.agg #[.int .i64 (n : Int), .int .i64 341, .int .i64 0, .int .i64 0, .int .i64 0, .int .u8 0, .bool false, .int .i64 0, .int .i64 0, .int .i64 0, .slice none 0 0, .slice none 0 0, .slice none 0 0, .slice none 0 0, .slice none 0 0]) W := by
  simp only [Instr.loadAt, Instr.sureAddr, Sem.run_bind, Sem.run_pure, Result.andThen]
  exact run_loadVar_row W B 76 76 #[.int .i64 (n : Int), .int .i64 341, .int .i64 0, .int .i64 0, .int .i64 0, .int .u8 0, .bool false, .int .i64 0, .int .i64 0, .int .i64 0, .slice none 0 0, .slice none 0 0, .slice none 0 0, .slice none 0 0, .slice none 0 0] (0, 0) _ h Tryz.underlying76 rfl infoRsp
theorem RC.setRow {W : World} {B n : Nat} (h : RC W B 0 0) : RC (W.setRow B #[.int .i64 (n : Int), .int .i64 341, .int .i64 0, .int .i64 0, .int .i64 0, .int .u8 0, .bool false, .int .i64 0, .int .i64 0, .int .i64 0, .slice none 0 0, .slice none 0 0, .slice none 0 0, .slice none 0 0, .slice none 0 0]) B (n : Int) 341 := by
  have hlt : B < W.heap.size := (Array.getElem?_eq_some_iff.1 h).1
  have he := (Array.getElem?_eq_some_iff.1 h).2
  show (W.heap.modify B _)[B]? = _
  rw [Array.getElem?_eq_getElem (by rw [Array.size_modify]; exact hlt), Array.getElem_modify_self, he]
theorem RC.new (W : World) : RC (W.alloc (.cells #[.int .i64 0, .int .i64 0, .int .i64 0, .int .i64 0, .int .i64 0, .int .u8 0, .bool false, .int .i64 0, .int .i64 0, .int .i64 0, .slice none 0 0, .slice none 0 0, .slice none 0 0, .slice none 0 0, .slice none 0 0] 76)) W.heap.size 0 0 := World.alloc_heap_new W _
theorem rld_open_ (t : TypeId) (p : Value) (h : ¬ t = 76) : Instr.loadAt t p = (do loadVar t (← Instr.sureAddr p)) := rfl
theorem rst_open_ (t : TypeId) (p v : Value) (h : ¬ t = 76) : Instr.storeAt t p v = (do storeVar t (← Instr.sureAddr p) v) := rfl
attribute [-go_sem] Instr.storeAt Instr.loadAt
attribute [local go_sem] rld_open_ rst_open_
set_option maxHeartbeats 4000000 in
theorem RespRead_any (n : Nat) (hn1 : 1 ≤ n) (hn2 : n ≤ 246) (v : Value) (base : Nat) (W : World) (h : W.ownsRow base 5 1 v 9 (u8s (frameR n))) :
    Calls Tryz.prog 42 #[v] W fun e w' => e = .returned (.tuple #[.agg #[.int .i64 (n : Int), .int .i64 341, .int .i64 0, .int .i64 0, .int .i64 0, .int .u8 0, .bool false, .int .i64 0, .int .i64 0, .int .i64 0, .slice none 0 0, .slice none 0 0, .slice none 0 0, .slice none 0 0, .slice none 0 0], .int .i64 0]) ∧ Below W.heap.size W w' := by
  obtain ⟨g, c, e⟩ := owns_form_pos_ h (by decide)
  subst e
  have hrd : Reads .u8 W (.slice (some ⟨g, 0, none⟩) 9 c) (frameR n) := Reads.of_owns (zs := frameR n) h
  have hcap : 9 ≤ c := by
    rcases h.2 with ⟨hv, -⟩ | ⟨g', cap, cur, hv, -, -, hcap, -⟩
    · cases hv
    · cases hv; omega
  have hcells : ∀ i, i < 9 → W.cell? ⟨g, 0 + i, none⟩ = some (.int .u8 ((frameR n)[i]?.getD 0)) := by
    rcases hrd with ⟨a2, c2, e2, e3⟩ | ⟨b, o, c2, e2, hl2, hc⟩
    · cases e3
    · have e2' : Value.slice (some ⟨g, 0, none⟩) 9 c = Value.slice (some ⟨b, o, none⟩) 9 c2 := e2
      cases e2'
      exact hc
  have hbody : BodyAt W g 1 n := fun i hi => by
    have := hcells (i + 1) (by omega)
    rw [show 0 + (i + 1) = 1 + i by omega] at this
    rw [this]
    rfl
  have h0 := hcells 0 (by omega)
  simp [frameR] at h0
  have HBODY := Lib.hid hbody
  have HRD := Lib.hid hrd
  have n1 : ¬ c = 1 := by omega
  have n2 : ¬ c - 1 = 0 := by omega
  have n3 : 9 ≤ c := hcap
  have n4 : (9 : Int) ≤ c := by omega
  clear h hrd hcells hbody
  go_enter Tryz.func42, Tryz.ntmps42
  go_upto_region 1 with fail
  have hm1 : Mod (fun _ => False) W (W.alloc (.cells #[.int .i64 0, .int .i64 0, .int .i64 0, .int .i64 0, .int .i64 0, .int .u8 0, .bool false, .int .i64 0, .int .i64 0, .int .i64 0, .slice none 0 0, .slice none 0 0, .slice none 0 0, .slice none 0 0, .slice none 0 0] 76)) := (Mod.refl _ _).alloc _
  have HZ1 := Lib.hid (RC.new W)
  have HM1 := Lib.hid hm1
  have g0 := hm1.cell (by simp) h0
  clear hm1 h0
  generalize W.alloc (.cells #[.int .i64 0, .int .i64 0, .int .i64 0, .int .i64 0, .int .i64 0, .int .u8 0, .bool false, .int .i64 0, .int .i64 0, .int .i64 0, .slice none 0 0, .slice none 0 0, .slice none 0 0, .slice none 0 0, .slice none 0 0] 76) = W1 at *
  generalize hN : W.heap.size = N at *
  have HN := Lib.hid hN
  clear hN
  go_wp2_with fail
  refine (fieldRead_any g 1 (c - 1) n hn2 (by omega) W1 (HBODY.out.mod HM1.out (by simp))).mono ?_; rintro e W2 ⟨vl, v1, v2, rfl, hf2, hb2⟩
  have hs1 : N ≤ W1.heap.size := by rw [← HN.out]; exact HM1.out.size
  obtain ⟨ho0, hof⟩ := hf2
  have ho1 : W2.ownsRow W1.heap.size 5 1 v1 1 (u8s [(n : Int)]) := hof _ (.head _)
  have ho2 : W2.ownsRow W1.heap.size 5 1 v2 3 (u8s [248, 1, 85]) := hof _ (.tail _ (.head _))
  have ho3 : W2.ownsRow W1.heap.size 141 2 vl 2 (fCells [(1, v1, [(n : Int)]), (3, v2, [248, 1, 85])]) := ho0
  obtain ⟨gf, cf, rfl, hcf, hgf, hfc⟩ := owns_cells_pos_ ho3 (by decide)
  obtain ⟨g1, c1, rfl, hc1, hg1, hf1⟩ := owns_cells_pos_ ho1 (by decide)
  obtain ⟨g2, c2, rfl, hc2, hg2, hf2⟩ := owns_cells_pos_ ho2 (by decide)
  have k0 := hfc 0 _ rfl
  have k1 := hfc 1 _ rfl
  have k2 := hfc 2 _ rfl
  have k3 := hfc 3 _ rfl
  have l0 := hf1 0 _ rfl
  have m0 := hf2 0 _ rfl
  have m1 := hf2 1 _ rfl
  have m2 := hf2 2 _ rfl
  have HM2 : Hid (Mod (fun _ => False) W W2) := HM1.out.trans (Mod.of_same hb2)
  have HZ2 := Lib.hid (HZ1.out.mod (Mod.of_same (S := fun _ => False) hb2) (by simp))
  have hB1 : W2.heap.size ≥ W1.heap.size := hb2.size
  have hfcl := hfc
  have hf1l := hf1
  have hf2l := hf2
  clear ho0 hof ho1 ho2 ho3 hfc hf1 hf2 hb2 HZ1 HM1 g0
  go_upto_region 7 with fail
  have hm3 : Mod (fun _ => False) W2 (W2.alloc (.cells #[.int .i64 0, .int .i64 0, .int .i64 0, .int .i64 0, .int .i64 0, .int .u8 0, .bool false, .int .i64 0, .int .i64 0, .int .i64 0, .slice none 0 0, .slice none 0 0, .slice none 0 0, .slice none 0 0, .slice none 0 0] 76)) := (Mod.refl _ _).alloc _
  have HR3 := Lib.hid (RC.new W2)
  have HZ3 := Lib.hid (HZ2.out.mod hm3 (by simp))
  have HM3 := Lib.hid (HM2.out.trans hm3)
  replace k0 := hm3.cell (by simp) k0
  replace k1 := hm3.cell (by simp) k1
  replace k2 := hm3.cell (by simp) k2
  replace k3 := hm3.cell (by simp) k3
  replace l0 := hm3.cell (by simp) l0
  replace m0 := hm3.cell (by simp) m0
  replace m1 := hm3.cell (by simp) m1
  replace m2 := hm3.cell (by simp) m2
  have hgl : gf < W2.heap.size := by
    have := World.block_lt_of_cell? _ _ k0
    have h2 := (hfcl 0 _ rfl)
    exact World.block_lt_of_cell? _ _ h2
  have hg1l : g1 < W2.heap.size := World.block_lt_of_cell? _ _ (hf1l 0 _ rfl)
  have hg2l : g2 < W2.heap.size := World.block_lt_of_cell? _ _ (hf2l 0 _ rfl)
  have hNl : N < W2.heap.size := (Array.getElem?_eq_some_iff.1 HZ2.out).1
  clear HZ2 HM2 hm3 hfcl hf1l hf2l
  generalize W2.alloc (.cells #[.int .i64 0, .int .i64 0, .int .i64 0, .int .i64 0, .int .i64 0, .int .u8 0, .bool false, .int .i64 0, .int .i64 0, .int .i64 0, .slice none 0 0, .slice none 0 0, .slice none 0 0, .slice none 0 0, .slice none 0 0] 76) = W3 at *
  generalize hB7 : W2.heap.size = B7 at *
  clear hB7
  go_wp2_with fail
  refine wp_loop_rounds 3 ?_
  rw [rounds_succ]
  go_wp2_with fail
  have hma : Mod (fun _ => False) W3 (W3.alloc (.cells #[.int .i64 1, .slice (some ⟨g1, 0, none⟩) 1 c1] 141)) := (Mod.refl _ _).alloc _
  refine (take_number B7 g1 0 c1 n 0 0 hn2 _ (HR3.out.mod hma (by simp)) (hma.cell (by simp) l0) hc1).mono ?_; rintro e W4 ⟨rfl, hr4, hm4⟩
  have hm34 : Mod (fun q => q = B7) W3 W4 := Mod.trans (hma.mono (fun _ _ h => h.elim)) hm4
  have HR4 := Lib.hid hr4
  have HZ4 := Lib.hid (HZ3.out.mod hm34 (by omega))
  have HM4 : Hid (Mod (fun q => q = B7) W W4) := Mod.trans (HM3.out.mono (fun _ _ h => h.elim)) hm34
  have d1 : ¬ gf = B7 := by omega
  have d2 : ¬ g2 = B7 := by omega
  replace k2 := hm34.cell (by exact d1) k2
  replace k3 := hm34.cell (by exact d1) k3
  replace m0 := hm34.cell (by exact d2) m0
  replace m1 := hm34.cell (by exact d2) m1
  replace m2 := hm34.cell (by exact d2) m2
  clear hm34 hr4 hm4 hma HR3 HZ3 HM3 k0 k1 l0
  go_wp2_with fail
  rw [rounds_succ]
  go_wp2_with fail
  have hma : Mod (fun _ => False) W4 (W4.alloc (.cells #[.int .i64 3, .slice (some ⟨g2, 0, none⟩) 3 c2] 141)) := (Mod.refl _ _).alloc _
  refine (take_code B7 g2 0 c2 (n : Int) 0 _ (HR4.out.mod hma (by simp)) (hma.cell (by simp) m0) (hma.cell (by simp) m1) (hma.cell (by simp) m2) hc2).mono ?_; rintro e W5 ⟨rfl, hr5, hm5⟩
  have hm45 : Mod (fun q => q = B7) W4 W5 := Mod.trans (hma.mono (fun _ _ h => h.elim)) hm5
  have HR5 := Lib.hid hr5
  have HZ5 := Lib.hid (HZ4.out.mod hm45 (by omega))
  have HM5 : Hid (Mod (fun q => q = B7) W W5) := Mod.trans HM4.out hm45
  clear hm45 hr5 hm5 hma HR4 HZ4 HM4 k2 k3 m0 m1 m2
  go_wp2_with fail
  rw [rounds_succ]
  have L7 := rsp_ld_ HR5.out
  go_wp2_with fail
  refine (WriteResp_R0 n hn1 hn2 W5).mono ?_; rintro e W6 ⟨vw, rfl, hw6, hb6⟩
  obtain ⟨gw, cw, rfl⟩ := owns_form_pos_ hw6 (by decide)
  have HW6 := Lib.hid hw6
  have HR6 := Lib.hid (HR5.out.mod (Mod.of_same (S := fun _ => False) hb6) (by simp))
  have HZ6 := Lib.hid (HZ5.out.mod (Mod.of_same (S := fun _ => False) hb6) (by simp))
  have HM6 : Hid (Mod (fun q => q = B7) W W6) := HM5.out.trans (Mod.of_same hb6)
  clear L7 hw6 hb6 HR5 HZ5 HM5
  go_wp2_with fail
  have hga : g < N := by
    rw [← HN.out]
    exact World.block_lt_of_cell? W _ (HBODY.out 0 (by decide))
  refine (EqualB_same _ _ 9 cw c (frameR n) W6 (Reads.of_owns (zs := frameR n) HW6.out) (HRD.out.mod HM6.out (by
    intro b hb
    have : g = b := by simpa [Value.ownBlock] using hb
    have := HN.out
    show ¬ b = B7
    omega)) rfl (by omega)).mono ?_; rintro e W7 ⟨rfl, hb7⟩
  have HR7 := Lib.hid (HR6.out.mod (Mod.of_same (S := fun _ => False) hb7) (by simp))
  have HZ7 := Lib.hid (HZ6.out.mod (Mod.of_same (S := fun _ => False) hb7) (by simp))
  have HM7 : Hid (Mod (fun q => q = B7) W W7) := HM6.out.trans (Mod.of_same hb7)
  clear HW6 hb7 HR6 HZ6 HM6
  have L7 := rsp_ld_ HR7.out
  have S7 := rsp_row_ (n := n) HZ7.out
  go_wp2_with fail
  refine bodyPost_ret (results_cell_tmp_ rfl _ _ N _ _ _ _ rfl (HZ7.out.setRow (n := n)) Tryz.underlying76 rfl infoRsp) rfl ⟨rfl, ?_⟩
  refine below_row_ (HM7.out.below (Nat.le_refl _) (fun q hq e => ?_)) (by rw [HN.out]; exact Nat.le_refl _) _
  have := HN.out
  omega
end Resp
end Go.Proofs.YtdfmgneicdpjmaaGreat

/- The examples of layer 38. -/
namespace Go.Proofs.YtdfmgneicdpjmaaGreat
open Go.RowKit Go.Shelf
set_option linter.unusedVariables false
set_option linter.unusedSimpArgs false
set_option maxRecDepth 100000
namespace Resp

/-- What awake asks of a row of answers. -/
def OutAt (W : World) (base : Nat) (g m : Nat) : Prop := ∀ i, i < m → ∃ v, W.cell? ⟨g, i, none⟩ = some v ∧ W.ownsRow base 5 1 v 9 (u8s (frameR (i + 1)))
theorem OutAt.mod {S : Nat → Prop} {W W' : World} {base g m : Nat} (h : OutAt W base g m) (hm : Mod S W W') (hS : ∀ q, ¬ S q) : OutAt W' base g m := fun i hi => by
  obtain ⟨v, hc, ho⟩ := h i hi
  exact ⟨v, hm.cell (hS _) hc, ownsRow_mod ho hm (fun g _ => hS g)⟩
theorem OutRow.at_ {W : World} {base m : Nat} {v : Value} (h : OutRow W base v m) (hm : 0 < m) : ∃ g c, v = .slice (some ⟨g, 0, none⟩) m c ∧ m ≤ c ∧ c ≤ maxLen ∧ base ≤ g ∧ OutAt W base g m := by
  obtain ⟨vs, hl, ho, he⟩ := h
  obtain ⟨g, c, rfl, hc, hg, hf⟩ := owns_cells_pos_ ho hm
  refine ⟨g, c, rfl, hc, ?_, hg, fun i hi => ?_⟩
  · rcases ho.2 with ⟨h1, _⟩ | ⟨g', c', cur, h1, h2, h3, h4, h5, h6, h7⟩
    · cases h1
    · cases h1; exact h5
  · have hi' : i < vs.length := by omega
    exact ⟨vs[i], hf i _ (List.getElem?_eq_getElem hi'), he i hi'⟩
def frameS (n : Nat) : ByteArray := strOfNums (frameR n)
theorem StrAt.frame {W : World} {base n : Nat} {v : Value} (h : W.ownsRow base 5 1 v 9 (u8s (frameR n))) : StrAt W v (frameS n) := ⟨frameR n, Reads.of_owns (zs := frameR n) h, rfl⟩
theorem OutAt.rows {W : World} {base g m : Nat} (h : OutAt W base g m) : RowsAt W (some ⟨g, 0, none⟩) m ((List.range m).map fun i => frameS (i + 1)) :=
  ⟨by simp, fun i u hu => by
    rw [List.getElem?_map] at hu
    by_cases hi : i < m
    · rw [List.getElem?_range hi] at hu
      obtain ⟨v, hc, ho⟩ := h i hi
      injection hu with hu
      subst hu
      exact ⟨g, 0, v, rfl, by rw [Nat.zero_add]; exact hc, StrAt.frame ho⟩
    · rw [List.getElem?_eq_none (by simpa using hi)] at hu
      cases hu⟩
theorem RowsAt.nil (W : World) : RowsAt W none 0 [] := ⟨rfl, fun i u hu => by simp at hu⟩
theorem begB_nil (ss : List ByteArray) : begB [] ss = true := by simp [begB]
theorem mod_drewN_ (w : World) : ∀ q, Mod (fun _ => False) w (w.drewN q)
  | 0 => Mod.refl _ _
  | q + 1 => (mod_drewN_ w q).drew
theorem cell_row_ {W : World} {g : Nat} {cs : Array Value} {T : TypeId} (h : W.heap[g]? = some (.cells cs T)) {i : Nat} {v : Value} (hv : cs[i]? = some v) : W.cell? ⟨g, i, none⟩ = some v := by
  simp only [World.cell?, h, Option.bind_some]
  exact hv
theorem EqualB_refl (v1 v2 : Value) (s : ByteArray) (W : World) (h1 : StrAt W v1 s) (h2 : StrAt W v2 s) :
    Calls Tryz.prog 33 #[v1, v2] W fun e w' => e = .returned (.bool true) ∧ w' = W := by
  have := EqualB_any v1 v2 s s W h1 h2
  rw [decide_eq_true rfl] at this
  exact this
theorem BeginsNil_at (g m c base : Nat) (W : World) (h : OutAt W base g m) (hm : m ≤ 1000000) (hmc : m ≤ c) (hcm : c ≤ maxLen) :
    Calls Tryz.prog 13 #[.slice none 0 0, .slice (some ⟨g, 0, none⟩) m c] W fun e w' => e = .returned (.bool true) ∧ Below W.heap.size W w' := by
  have := Begins_any none _ 0 m 0 c [] _ W (RowsAt.nil W) h.rows (by omega) hm hmc hcm
  rw [begB_nil] at this
  exact this
theorem st2_open_ (t : TypeId) (p v : Value) (h1 : ¬ t = 89) (h2 : ¬ t = 76) : Instr.storeAt t p v = (do storeVar t (← Instr.sureAddr p) v) := rfl
attribute [-go_sem] Instr.storeAt
attribute [local go_sem] st2_open_ st_new_
set_option maxHeartbeats 4000000 in
theorem awake38 (W : World) : Calls Tryz.prog 11 #[] W fun e w' => e = .returned (.bool true) ∧ Below W.heap.size W w' := by
  go_enter Tryz.func11, Tryz.ntmps11
  go_upto_region 2 with fail
  obtain ⟨hh1, hh2, hh3⟩ := three_new_ W (.cells #[.int .u8 9] 5) (.cells #[.int .u8 9] 5) (.cells #[.slice (some ⟨W.heap.size, 0, none⟩) 1 1, .slice (some ⟨W.heap.size + 1, 0, none⟩) 1 1] 25)
  have hm1 : Mod (fun _ => False) W (((W.alloc (.cells #[.int .u8 9] 5)).alloc (.cells #[.int .u8 9] 5)).alloc (.cells #[.slice (some ⟨W.heap.size, 0, none⟩) 1 1, .slice (some ⟨W.heap.size + 1, 0, none⟩) 1 1] 25)) := (((Mod.refl _ _).alloc _).alloc _).alloc _
  have hs1 : (((W.alloc (.cells #[.int .u8 9] 5)).alloc (.cells #[.int .u8 9] 5)).alloc (.cells #[.slice (some ⟨W.heap.size, 0, none⟩) 1 1, .slice (some ⟨W.heap.size + 1, 0, none⟩) 1 1] 25)).heap.size = W.heap.size + 3 := by simp
  generalize (((W.alloc (.cells #[.int .u8 9] 5)).alloc (.cells #[.int .u8 9] 5)).alloc (.cells #[.slice (some ⟨W.heap.size, 0, none⟩) 1 1, .slice (some ⟨W.heap.size + 1, 0, none⟩) 1 1] 25)) = W1 at *
  generalize hN : W.heap.size = N at *
  have HN := Lib.hid hN
  clear hN
  obtain ⟨k0, k1, -, -⟩ := pair_cells_ hh3
  have k2 := cell_of_heap_ hh1
  have k3 := cell_of_heap_ hh2
  have HM1 := Lib.hid hm1
  have HF : Hid (Frames1 W1 (.slice (some ⟨N + 1 + 1, 0, none⟩) 2 2) 2) := .inr ⟨N + 1 + 1, 2, rfl, fun i hi => by
    rcases i with _ | _ | i
    · exact ⟨_, _, _, k0, k2⟩
    · exact ⟨_, _, _, k1, k3⟩
    · omega⟩
  clear hh1 hh2 hh3 hm1
  go_wp2_with fail
  refine (Answers_short _ 2 W1 HF.out (by omega)).mono ?_; rintro e W2 ⟨vo, vt, rfl, ho2, ht2, hb2⟩
  obtain ⟨go, co, rfl, hco, hcm, hgo, hoa⟩ := ho2.at_ (by decide)
  obtain ⟨gt, ct, rfl, hct, hgt, htc⟩ := owns_cells_pos_ ht2 (by decide)
  have HO2 := Lib.hid hoa
  have HT2 : Hid (Reads .i64 W2 (.slice (some ⟨gt, 0, none⟩) 2 ct) [0, 0]) := Reads.of_owns (zs := [0, 0]) ht2
  have hm2 : Mod (fun _ => False) W1 W2 := Mod.of_same hb2
  have HM2 := Lib.hid (HM1.out.trans hm2)
  replace k0 := hm2.cell (by simp) k0
  replace k1 := hm2.cell (by simp) k1
  replace k2 := hm2.cell (by simp) k2
  replace k3 := hm2.cell (by simp) k3
  have hoI : (2 : Int) ≤ co := by omega
  clear hm2 hb2 hoa ho2 ht2 htc HF HM1
  go_wp2_with fail
  have hma : Mod (fun _ => False) W2 (W2.alloc (.cells #[.int .i64 0, .int .i64 0] 3)) := (Mod.refl _ _).alloc _
  have hz : (W2.alloc (.cells #[.int .i64 0, .int .i64 0] 3)).heap[W2.heap.size]? = some (.cells #[.int .i64 0, .int .i64 0] 3) := World.alloc_heap_new _ _
  obtain ⟨z0, z1, -, -⟩ := pair_cells_ hz
  refine (EqualI_any _ _ [0, 0] [0, 0] _ (HT2.out.mod hma (by simp)) (.inr ⟨W2.heap.size, 0, 2, rfl, by unfold maxLen; simp, fun i hi => by
    rcases i with _ | _ | i
    · exact z0
    · exact z1
    · simp at hi; omega⟩)).mono ?_; rintro e W4 ⟨rfl, q, e4⟩
  have hm4 : Mod (fun _ => False) W2 W4 := by
    rw [e4]
    exact hma.trans (mod_drewN_ _ q)
  have HM4 := Lib.hid (HM2.out.trans hm4)
  have HO4 := Lib.hid (HO2.out.mod hm4 (by simp))
  replace k0 := hm4.cell (by simp) k0
  replace k1 := hm4.cell (by simp) k1
  replace k2 := hm4.cell (by simp) k2
  replace k3 := hm4.cell (by simp) k3
  clear hm4 hma hz z0 z1 HT2 HM2 HO2 e4
  go_wp2_with fail
  refine wp_loop_rounds 3 ?_
  rw [rounds_succ]
  obtain ⟨vr, qr, ho0⟩ := HO4.out 0 (by omega)
  obtain ⟨gr, cr, e⟩ := owns_form_pos_ ho0 (by decide)
  subst e
  have HR0 := Lib.hid ho0
  clear ho0
  go_wp2_with fail
  refine (RespRead_any 1 (by omega) (by omega) _ _ W4 HR0.out).mono ?_; rintro e W5 ⟨rfl, hb5⟩
  have hm5 : Mod (fun _ => False) W4 W5 := Mod.of_same hb5
  have HM5 := Lib.hid (HM4.out.trans hm5)
  have HO5 := Lib.hid (HO4.out.mod hm5 (by simp))
  replace k0 := hm5.cell (by simp) k0
  replace k1 := hm5.cell (by simp) k1
  replace k2 := hm5.cell (by simp) k2
  replace k3 := hm5.cell (by simp) k3
  clear hm5 hb5 HM4 HO4 HR0 qr
  have hS : (Instr.storeAt 76 (.pointer (some ⟨W5.heap.size, 0, none⟩)) (.agg #[.int .i64 1, .int .i64 341, .int .i64 0, .int .i64 0, .int .i64 0, .int .u8 0, .bool false, .int .i64 0, .int .i64 0, .int .i64 0, .slice none 0 0, .slice none 0 0, .slice none 0 0, .slice none 0 0, .slice none 0 0])).run Tryz.prog (W5.alloc (.cells #[.int .i64 0, .int .i64 0, .int .i64 0, .int .i64 0, .int .i64 0, .int .u8 0, .bool false, .int .i64 0, .int .i64 0, .int .i64 0, .slice none 0 0, .slice none 0 0, .slice none 0 0, .slice none 0 0, .slice none 0 0] 76)) = .ok () ((W5.alloc (.cells #[.int .i64 0, .int .i64 0, .int .i64 0, .int .i64 0, .int .i64 0, .int .u8 0, .bool false, .int .i64 0, .int .i64 0, .int .i64 0, .slice none 0 0, .slice none 0 0, .slice none 0 0, .slice none 0 0, .slice none 0 0] 76)).setRow W5.heap.size #[.int .i64 1, .int .i64 341, .int .i64 0, .int .i64 0, .int .i64 0, .int .u8 0, .bool false, .int .i64 0, .int .i64 0, .int .i64 0, .slice none 0 0, .slice none 0 0, .slice none 0 0, .slice none 0 0, .slice none 0 0]) := rsp_row_ (n := 1) (RC.new W5)
  go_upto_region 9 with fail
  have hma : Mod (fun _ => False) W5 (W5.alloc (.cells #[.int .i64 0, .int .i64 0, .int .i64 0, .int .i64 0, .int .i64 0, .int .u8 0, .bool false, .int .i64 0, .int .i64 0, .int .i64 0, .slice none 0 0, .slice none 0 0, .slice none 0 0, .slice none 0 0, .slice none 0 0] 76)) := (Mod.refl _ _).alloc _
  have hmb := mod_trans_up_ hma (mod_row_ _ W5.heap.size #[.int .i64 1, .int .i64 341, .int .i64 0, .int .i64 0, .int .i64 0, .int .u8 0, .bool false, .int .i64 0, .int .i64 0, .int .i64 0, .slice none 0 0, .slice none 0 0, .slice none 0 0, .slice none 0 0, .slice none 0 0]) (fun k hk e => by omega)
  have hr : RC ((W5.alloc (.cells #[.int .i64 0, .int .i64 0, .int .i64 0, .int .i64 0, .int .i64 0, .int .u8 0, .bool false, .int .i64 0, .int .i64 0, .int .i64 0, .slice none 0 0, .slice none 0 0, .slice none 0 0, .slice none 0 0, .slice none 0 0] 76)).setRow W5.heap.size #[.int .i64 1, .int .i64 341, .int .i64 0, .int .i64 0, .int .i64 0, .int .u8 0, .bool false, .int .i64 0, .int .i64 0, .int .i64 0, .slice none 0 0, .slice none 0 0, .slice none 0 0, .slice none 0 0, .slice none 0 0]) W5.heap.size 1 341 := (RC.new W5).setRow (n := 1)
  generalize (W5.alloc (.cells #[.int .i64 0, .int .i64 0, .int .i64 0, .int .i64 0, .int .i64 0, .int .u8 0, .bool false, .int .i64 0, .int .i64 0, .int .i64 0, .slice none 0 0, .slice none 0 0, .slice none 0 0, .slice none 0 0, .slice none 0 0] 76)).setRow W5.heap.size #[.int .i64 1, .int .i64 341, .int .i64 0, .int .i64 0, .int .i64 0, .int .u8 0, .bool false, .int .i64 0, .int .i64 0, .int .i64 0, .slice none 0 0, .slice none 0 0, .slice none 0 0, .slice none 0 0, .slice none 0 0] = W6 at *
  have h5 : W6.cell? ⟨W5.heap.size, 5, none⟩ = some (.int .u8 0) := by simp [World.cell?, show W6.heap[W5.heap.size]? = _ from hr]
  obtain ⟨r0, r1, -, -⟩ := hr.cells
  have HM6 := Lib.hid (HM5.out.trans hmb)
  have HO6 := Lib.hid (HO5.out.mod hmb (by simp))
  replace k0 := hmb.cell (by simp) k0
  replace k1 := hmb.cell (by simp) k1
  replace k2 := hmb.cell (by simp) k2
  replace k3 := hmb.cell (by simp) k3
  clear hS hr hma hmb HM5 HO5
  go_wp2_with fail
  clear h5 r0 r1
  rw [rounds_succ]
  obtain ⟨vr, qr, ho1⟩ := HO6.out 1 (by omega)
  obtain ⟨gr, cr, e⟩ := owns_form_pos_ ho1 (by decide)
  subst e
  have HR1 := Lib.hid ho1
  clear ho1
  go_wp2_with fail
  refine (RespRead_any 2 (by omega) (by omega) _ _ W6 HR1.out).mono ?_; rintro e W7 ⟨rfl, hb7⟩
  have hm7 : Mod (fun _ => False) W6 W7 := Mod.of_same hb7
  have HM7 := Lib.hid (HM6.out.trans hm7)
  have HO7 := Lib.hid (HO6.out.mod hm7 (by simp))
  replace k0 := hm7.cell (by simp) k0
  replace k1 := hm7.cell (by simp) k1
  replace k2 := hm7.cell (by simp) k2
  replace k3 := hm7.cell (by simp) k3
  clear hm7 hb7 HM6 HO6 HR1 qr
  have hS : (Instr.storeAt 76 (.pointer (some ⟨W7.heap.size, 0, none⟩)) (.agg #[.int .i64 2, .int .i64 341, .int .i64 0, .int .i64 0, .int .i64 0, .int .u8 0, .bool false, .int .i64 0, .int .i64 0, .int .i64 0, .slice none 0 0, .slice none 0 0, .slice none 0 0, .slice none 0 0, .slice none 0 0])).run Tryz.prog (W7.alloc (.cells #[.int .i64 0, .int .i64 0, .int .i64 0, .int .i64 0, .int .i64 0, .int .u8 0, .bool false, .int .i64 0, .int .i64 0, .int .i64 0, .slice none 0 0, .slice none 0 0, .slice none 0 0, .slice none 0 0, .slice none 0 0] 76)) = .ok () ((W7.alloc (.cells #[.int .i64 0, .int .i64 0, .int .i64 0, .int .i64 0, .int .i64 0, .int .u8 0, .bool false, .int .i64 0, .int .i64 0, .int .i64 0, .slice none 0 0, .slice none 0 0, .slice none 0 0, .slice none 0 0, .slice none 0 0] 76)).setRow W7.heap.size #[.int .i64 2, .int .i64 341, .int .i64 0, .int .i64 0, .int .i64 0, .int .u8 0, .bool false, .int .i64 0, .int .i64 0, .int .i64 0, .slice none 0 0, .slice none 0 0, .slice none 0 0, .slice none 0 0, .slice none 0 0]) := rsp_row_ (n := 2) (RC.new W7)
  go_upto_region 9 with fail
  have hma : Mod (fun _ => False) W7 (W7.alloc (.cells #[.int .i64 0, .int .i64 0, .int .i64 0, .int .i64 0, .int .i64 0, .int .u8 0, .bool false, .int .i64 0, .int .i64 0, .int .i64 0, .slice none 0 0, .slice none 0 0, .slice none 0 0, .slice none 0 0, .slice none 0 0] 76)) := (Mod.refl _ _).alloc _
  have hmb := mod_trans_up_ hma (mod_row_ _ W7.heap.size #[.int .i64 2, .int .i64 341, .int .i64 0, .int .i64 0, .int .i64 0, .int .u8 0, .bool false, .int .i64 0, .int .i64 0, .int .i64 0, .slice none 0 0, .slice none 0 0, .slice none 0 0, .slice none 0 0, .slice none 0 0]) (fun k hk e => by omega)
  have hr : RC ((W7.alloc (.cells #[.int .i64 0, .int .i64 0, .int .i64 0, .int .i64 0, .int .i64 0, .int .u8 0, .bool false, .int .i64 0, .int .i64 0, .int .i64 0, .slice none 0 0, .slice none 0 0, .slice none 0 0, .slice none 0 0, .slice none 0 0] 76)).setRow W7.heap.size #[.int .i64 2, .int .i64 341, .int .i64 0, .int .i64 0, .int .i64 0, .int .u8 0, .bool false, .int .i64 0, .int .i64 0, .int .i64 0, .slice none 0 0, .slice none 0 0, .slice none 0 0, .slice none 0 0, .slice none 0 0]) W7.heap.size 2 341 := (RC.new W7).setRow (n := 2)
  generalize (W7.alloc (.cells #[.int .i64 0, .int .i64 0, .int .i64 0, .int .i64 0, .int .i64 0, .int .u8 0, .bool false, .int .i64 0, .int .i64 0, .int .i64 0, .slice none 0 0, .slice none 0 0, .slice none 0 0, .slice none 0 0, .slice none 0 0] 76)).setRow W7.heap.size #[.int .i64 2, .int .i64 341, .int .i64 0, .int .i64 0, .int .i64 0, .int .u8 0, .bool false, .int .i64 0, .int .i64 0, .int .i64 0, .slice none 0 0, .slice none 0 0, .slice none 0 0, .slice none 0 0, .slice none 0 0] = W8 at *
  have h5 : W8.cell? ⟨W7.heap.size, 5, none⟩ = some (.int .u8 0) := by simp [World.cell?, show W8.heap[W7.heap.size]? = _ from hr]
  obtain ⟨r0, r1, -, -⟩ := hr.cells
  have HM8 := Lib.hid (HM7.out.trans hmb)
  have HO8 := Lib.hid (HO7.out.mod hmb (by simp))
  replace k0 := hmb.cell (by simp) k0
  replace k1 := hmb.cell (by simp) k1
  replace k2 := hmb.cell (by simp) k2
  replace k3 := hmb.cell (by simp) k3
  clear hS hr hma hmb HM7 HO7
  go_wp2_with fail
  clear h5 r0 r1
  rw [rounds_succ]
  go_upto_region 13 with fail
  have hmv : MovesAt (W8.alloc (.cells #[.bool true, .slice none 0 0, .bool false, .slice (some ⟨N, 0, none⟩) 1 1, .bool true, .slice none 0 0] 80)) (.slice (some ⟨W8.heap.size, 0, none⟩) 3 3) [true, false, true] := .inr ⟨W8.heap.size, 3, rfl, fun i hi => by
    have hz : (W8.alloc (.cells #[.bool true, .slice none 0 0, .bool false, .slice (some ⟨N, 0, none⟩) 1 1, .bool true, .slice none 0 0] 80)).heap[W8.heap.size]? = some (.cells #[.bool true, .slice none 0 0, .bool false, .slice (some ⟨N, 0, none⟩) 1 1, .bool true, .slice none 0 0] 80) := World.alloc_heap_new _ _
    have hmz : Mod (fun _ => False) W8 (W8.alloc (.cells #[.bool true, .slice none 0 0, .bool false, .slice (some ⟨N, 0, none⟩) 1 1, .bool true, .slice none 0 0] 80)) := (Mod.refl _ _).alloc _
    rcases i with _ | _ | _ | i
    · exact ⟨cell_row_ hz (by rfl), .inl ⟨rfl, cell_row_ hz (by rfl)⟩⟩
    · exact ⟨cell_row_ hz (by rfl), .inr ⟨rfl, N, 1, 9, cell_row_ hz (by rfl), hmz.cell (by simp) k2⟩⟩
    · exact ⟨cell_row_ hz (by rfl), .inl ⟨rfl, cell_row_ hz (by rfl)⟩⟩
    · simp at hi; omega⟩
  have hma : Mod (fun _ => False) W8 (W8.alloc (.cells #[.bool true, .slice none 0 0, .bool false, .slice (some ⟨N, 0, none⟩) 1 1, .bool true, .slice none 0 0] 80)) := (Mod.refl _ _).alloc _
  have HM9 := Lib.hid (HM8.out.trans hma)
  have HO9 := Lib.hid (HO8.out.mod hma (by simp))
  have HV9 := Lib.hid hmv
  clear hmv hma HM8 HO8 k0 k1 k2 k3
  generalize W8.alloc (.cells #[.bool true, .slice none 0 0, .bool false, .slice (some ⟨N, 0, none⟩) 1 1, .bool true, .slice none 0 0] 80) = W9 at *
  generalize W8.heap.size = M at *
  go_wp2_with fail
  refine (Run_any _ _ W9 HV9.out (by decide) (by decide)).mono ?_; rintro e W10 ⟨vl, he, hl, hb10⟩
  obtain ⟨f, hf⟩ : ∃ f, f = framesN [true, false, true] := ⟨_, rfl⟩
  have he' : e = .returned (.tuple #[vl, .agg #[.bool false, .bool false, .int .i64 (f : Int), .int .i64 1, .int .i64 0, .int .i64 0, .int .i64 0, .int .i64 0, .int .i64 0, .int .i64 0, .int .i64 0, .int .u64 0, .int .i64 0, .int .i64 0, .int .i64 0, .int .i64 0, .int .i64 0, .int .i64 0, .slice none 0 0, .int .i64 0, .slice none 0 0, .slice none 0 0, .slice none 0 0, .slice none 0 0], .int .i64 0, .int .i64 2, .int .i64 0]) := by rw [he, hf]; rfl
  clear hf he
  subst he'
  obtain ⟨gl, cl, rfl, hcl, -, hgl, hla⟩ := OutRow.at_ (m := 1) hl (by decide)
  have hm10 : Mod (fun _ => False) W9 W10 := Mod.of_same hb10
  have HM10 := Lib.hid (HM9.out.trans hm10)
  have HO10 := Lib.hid (HO9.out.mod hm10 (by simp))
  have HV10 := Lib.hid (HV9.out.below hb10)
  have HL10 := Lib.hid hla
  clear hm10 hb10 hl hla HM9 HO9 HV9
  go_upto_region 14 with fail
  have hba : Below W10.heap.size W10 (W10.alloc (.cells #[.bool false, .bool false, .int .i64 (f : Int), .int .i64 1, .int .i64 0, .int .i64 0, .int .i64 0, .int .i64 0, .int .i64 0, .int .i64 0, .int .i64 0, .int .u64 0, .int .i64 0, .int .i64 0, .int .i64 0, .int .i64 0, .int .i64 0, .int .i64 0, .slice none 0 0, .int .i64 0, .slice none 0 0, .slice none 0 0, .slice none 0 0, .slice none 0 0] 89)) := (Below.refl _ _).alloc (Nat.le_refl _) _
  have hma : Mod (fun _ => False) W10 (W10.alloc (.cells #[.bool false, .bool false, .int .i64 (f : Int), .int .i64 1, .int .i64 0, .int .i64 0, .int .i64 0, .int .i64 0, .int .i64 0, .int .i64 0, .int .i64 0, .int .u64 0, .int .i64 0, .int .i64 0, .int .i64 0, .int .i64 0, .int .i64 0, .int .i64 0, .slice none 0 0, .int .i64 0, .slice none 0 0, .slice none 0 0, .slice none 0 0, .slice none 0 0] 89)) := Mod.of_same hba
  have HM11 := Lib.hid (HM10.out.trans hma)
  have HO11 := Lib.hid (HO10.out.mod hma (by simp))
  have HL11 := Lib.hid (HL10.out.mod hma (by simp))
  have HV11 := Lib.hid (HV10.out.below hba)
  clear hba hma HM10 HO10 HL10 HV10
  generalize (W10.alloc (.cells #[.bool false, .bool false, .int .i64 (f : Int), .int .i64 1, .int .i64 0, .int .i64 0, .int .i64 0, .int .i64 0, .int .i64 0, .int .i64 0, .int .i64 0, .int .u64 0, .int .i64 0, .int .i64 0, .int .i64 0, .int .i64 0, .int .i64 0, .int .i64 0, .slice none 0 0, .int .i64 0, .slice none 0 0, .slice none 0 0, .slice none 0 0, .slice none 0 0] 89)) = W11 at *
  go_wp2_with fail
  refine (Need_any _ _ W11 HV11.out (by decide) (by decide)).mono ?_; rintro e W12 ⟨rfl, hb12⟩
  have hm12 : Mod (fun _ => False) W11 W12 := Mod.of_same hb12
  have HM12 := Lib.hid (HM11.out.trans hm12)
  have HO12 := Lib.hid (HO11.out.mod hm12 (by simp))
  have HL12 := Lib.hid (HL11.out.mod hm12 (by simp))
  clear hb12 hm12 HM11 HO11 HL11 HV11
  go_upto_region 15 with fail
  obtain ⟨vo0, qo, so⟩ := HO12.out 0 (by omega)
  obtain ⟨vl0, ql, sl⟩ := HL12.out 0 (by omega)
  have HS1 := Lib.hid (StrAt.frame sl)
  have HS2 := Lib.hid (StrAt.frame so)
  have hclI : (1 : Int) ≤ cl := by omega
  clear so sl
  go_region_held3 (fun W => W.cell? ⟨gl, 0, none⟩ = some vl0 ∧ W.cell? ⟨go, 0, none⟩ = some vo0)
    (first | (with_reducible exact HK2.out) | exact ⟨ql, qo⟩ | go_keep)
    ((first
      | (go_at_call 33; refine (EqualB_refl vl0 vo0 (frameS 1) _ (by exact HS1.out) (by exact HS2.out)).mono ?_; rintro e y1 ⟨rfl, e1⟩; subst e1)
      | (go_at_call 13; refine (BeginsNil_at go 2 co W1.heap.size _ (by exact HO12.out) (by omega) hco hcm).mono ?_; rintro e y2 ⟨rfl, hb2⟩; have HY2 : Hid (Mod (fun _ => False) W12 y2) := ⟨hb2.os, hb2.tape, hb2.output, hb2.size, fun k hk _ => hb2.block k hk⟩; have HK2 := Lib.hid (show y2.cell? ⟨gl, 0, none⟩ = some vl0 ∧ y2.cell? ⟨go, 0, none⟩ = some vo0 from ⟨HY2.out.cell (by simp) ql, HY2.out.cell (by simp) qo⟩); clear hb2)))
  go_wp2_with fail
  go_ret
  exact ⟨rfl, (HM12.out.trans HY2.out).below (Nat.le_refl _) (by simp)⟩
end Resp
end Go.Proofs.YtdfmgneicdpjmaaGreat
