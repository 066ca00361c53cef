/- field.Read over the body of a response. -/
import Derived.Test.YtdfmgneicdpjmaaGreatReadC
import Derived.Test.YtdfmgneicdpjmaaGreatFermHeldB
import Derived.Deep.RegionHeld3
import Derived.Deep.AppendLies
import Derived.RangeFuncCalls
namespace Go.Proofs.YtdfmgneicdpjmaaGreat
open Go.RowKit Go.Shelf
attribute [local go_sem] Oper.semAt_some
set_option linter.unusedVariables false
set_option linter.unusedSimpArgs false
set_option maxRecDepth 100000
namespace Resp

theorem sClone_bytes (v : Value) (zs : List Int) (W : World) (h : Reads .u8 W v zs) (h0 : 0 < zs.length) (hl : zs.length ≤ 1048576) :
    Calls Tryz.prog 80 #[v] W fun e w' => ∃ v', e = .returned v' ∧ w'.ownsRow W.heap.size 5 1 v' zs.length (u8s zs) ∧ Below W.heap.size W w' := by
  obtain ⟨i0, hi, hz0, hz1, hz2⟩ := info_parts infoByte
  obtain ⟨ad, c, e, -, hnw⟩ := Reads.lies_ h h0
  subst e
  have HNW := Lib.hid hnw
  clear hnw
  generalize hn : zs.length = n at *
  have HN := Lib.hid hn
  have hlI : (n : Int) ≤ 1048576 := by omega
  have hnz : ¬ n = 0 := by omega
  clear hn
  have hnil : (binOp .eql 25 (.slice (some ad) n c) (.slice none 0 0)).run Tryz.prog W = .ok (.bool false) W := by kernel_rfl
  go_enter Tryz.func80, Tryz.ntmps80
  go_wp2_with (at_builtin; refine wpList_append_own _ rfl _ _ 25 rfl W.heap.size 5 i0 (.int .u8 0) 1 1 Tryz.underlying25 hi hz0 hz1 hz2 rfl (by decide) _ _ _ rfl (World.ownsRow_lit W #[] 0 (Nat.le_refl _) (by unfold maxLen; omega) rfl) ad n c (u8s zs) rfl (by rw [u8s_length, HN.out, Nat.mul_one]) (HNW.out _ ((Below.refl _ _).alloc (Nat.le_refl _) _)) (u8s_one _) (by unfold maxLen; omega) (by omega) (by simp) ?_; intro v' w5 hown' hgrow hat; obtain ⟨a', c', e⟩ := ownsRow_form hown'; subst e; have HOWN := Lib.hid hown'; have HG := Lib.hid hgrow; clear hown' hgrow hat)
  go_ret
  have hm5 : Mod (fun k => some k = (Value.slice (some ⟨W.heap.size, 0, none⟩) 0 0).ownBlock) W w5 := ((Mod.refl _ W).alloc _).trans (Mod.of_grownBy HG.out)
  refine ⟨.slice a' n c', by simp, by simpa using HOWN.out, hm5.below (Nat.le_refl _) (fun k hk e => by simp [Value.ownBlock] at e; omega)⟩


def fT : Nat → Int | 0 => 1 | _ => 3
def fZ (n : Nat) : Nat → List Int | 0 => [(n : Int)] | _ => [248, 1, 85]
def fLa : Nat → Int | 0 => 0 | 1 => 1 | _ => 3
def fLe : Nat → Int | 0 => 16384 | 1 => 16383 | _ => 16380
def fS (n : Nat) : Nat → List (Int × List Int) | 0 => [] | 1 => [(1, [(n : Int)])] | _ => [(1, [(n : Int)]), (3, [248, 1, 85])]
def fO (o : Nat) : Nat → Nat | 0 => o + 2 | _ => o + 5
def fC (c : Nat) : Nat → Nat | 0 => c - 2 | _ => c - 5
def fAt : Nat → Int | 0 => 0 | _ => 3
theorem fldX_eq (g o c n k : Nat) (hk : k < 2) : fldX g o c k = (.int .i64 (fAt k), .agg #[.int .i64 (fT k), .slice (some ⟨g, fO o k, none⟩) (fZ n k).length (fC c k)]) := by
  rcases k with _ | _ | k
  · rfl
  · rfl
  · omega
def fI (W : World) (N n1 n k : Nat) (W' : World) : Prop :=
  (∃ vo fs, W'.heap[N]? = some (.cells #[vo] 137) ∧ FieldsOwn W' n1 vo fs ∧ fs.map (fun f => (f.1, f.2.2)) = fS n k) ∧ W'.heap[N + 1]? = some (.cells #[.int .i64 (fLa k)] 3) ∧ W'.heap[N + 1 + 1]? = some (.cells #[.int .i64 (fLe k)] 3) ∧ W'.heap[N + 1 + 1 + 1]? = some (.cells #[.int .i64 (-1)] 3) ∧ Below N W W' ∧ n1 ≤ W'.heap.size
theorem FieldsOwn.mod {S : Nat → Prop} {W W' : World} {base : Nat} {v : Value} {fs : List F} (h : FieldsOwn W base v fs) (hm : Mod S W W') (hS : ∀ q, base ≤ q → ¬ S q) : FieldsOwn W' base v fs :=
  ⟨ownsRow_mod h.1 hm (fun q hq => hS q (ownBlock_ge_ h.1 hq)), fun f hf => ownsRow_mod (h.2 f hf) hm (fun q hq => hS q (ownBlock_ge_ (h.2 f hf) hq))⟩
theorem fI.keep {S : Nat → Prop} {W : World} {N n1 n k : Nat} {A A' : World} (h : fI W N n1 n k A) (hm : Mod S A A') (hS : ∀ q, ¬ S q) : fI W N n1 n k A' := by
  obtain ⟨⟨vo, fs, h1, h2, h3⟩, h4, h5, h6, h7, h8⟩ := h
  refine ⟨⟨vo, fs, hm.heap h1 (hS _), h2.mod hm (fun q _ => hS q), h3⟩, hm.heap h4 (hS _), hm.heap h5 (hS _), hm.heap h6 (hS _), ⟨hm.os.trans h7.os, hm.tape.trans h7.tape, hm.output.trans h7.output, Nat.le_trans h7.size hm.size, fun q hq => (hm.block q ?_ (hS q)).trans (h7.block q hq)⟩, Nat.le_trans h8 hm.size⟩
  have := (Array.getElem?_eq_some_iff.1 h1).1
  omega
theorem fI.put {W : World} {N n1 n k : Nat} {A : World} (h : fI W N n1 n k A) {l : Nat} {o : Obj} (o' : Obj) (hl : A.heap[l]? = some o) (ho : o.isCells = false) (hNl : N ≤ l) : fI W N n1 n k (A.putObj l o') := by
  obtain ⟨⟨vo, fs, h1, h2, h3⟩, h4, h5, h6, h7, h8⟩ := h
  have hm := mod_put_ A l o'
  have hne : ∀ {q : Nat} {cs : Array Value} {t : TypeId}, A.heap[q]? = some (.cells cs t) → ¬ q = l := fun hq e => by
    rw [e, hl] at hq; cases hq; cases ho
  refine ⟨⟨vo, fs, hm.heap h1 (hne h1), ⟨ownsRow_putObj h2.1 _ hl ho, fun f hf => ownsRow_putObj (h2.2 f hf) _ hl ho⟩, h3⟩, hm.heap h4 (hne h4), hm.heap h5 (hne h5), hm.heap h6 (hne h6), h7.trans (hm.below ?_ (fun q hq e => by omega)), Nat.le_trans h8 hm.size⟩
  have := (Array.getElem?_eq_some_iff.1 h1).1
  omega
theorem four_new_ (W : World) (o1 o2 o3 o4 : Obj) : ((((W.alloc o1).alloc o2).alloc o3).alloc o4).heap[W.heap.size]? = some o1 ∧ ((((W.alloc o1).alloc o2).alloc o3).alloc o4).heap[W.heap.size + 1]? = some o2 ∧ ((((W.alloc o1).alloc o2).alloc o3).alloc o4).heap[W.heap.size + 1 + 1]? = some o3 ∧ ((((W.alloc o1).alloc o2).alloc o3).alloc o4).heap[W.heap.size + 1 + 1 + 1]? = some o4 := by
  obtain ⟨h1, h2, h3⟩ := three_new_ W o1 o2 o3
  have h4 := World.alloc_heap_new (((W.alloc o1).alloc o2).alloc o3) o4
  simp only [World.size_alloc] at h4
  exact ⟨(Below.heap_alloc _ _ _ (by simp <;> omega)).trans h1, (Below.heap_alloc _ _ _ (by simp <;> omega)).trans h2, (Below.heap_alloc _ _ _ (by simp <;> omega)).trans h3, h4⟩
def fAs (W : World) (g o c n : Nat) (k : Nat) (a' : Act) (W' : World) : Prop :=
  ∃ P, a' = { tmps := #[.slice (some ⟨g, o, none⟩) 8 c, undef, .slice none 0 0, .int .i64 0, .int .i64 0, .pointer (some ⟨W.heap.size, 0, none⟩), .pointer (some ⟨W.heap.size + 1, 0, none⟩), .pointer (some ⟨W.heap.size + 1 + 1, 0, none⟩), .pointer (some ⟨W.heap.size + 1 + 1 + 1, 0, none⟩), .int .i64 (fAt k), .pointer (some ⟨P, 0, none⟩), .slice (some ⟨g, o, none⟩) 8 c, .int .i64 8, .bool false, .slice (some ⟨g, o, none⟩) 8 c, .func (.func 166) #[] #[.pointer (some ⟨W.heap.size + 4, 0, none⟩)], .int .i64 (fAt k), (.agg #[.int .i64 (fT k), .slice (some ⟨g, fO o k, none⟩) (fZ n k).length (fC c k)]), undef, undef, undef, undef, undef, undef, undef, undef, undef, undef, undef, undef, undef, undef, undef, undef, undef, undef, undef, undef, undef, undef, undef, undef, undef, undef, undef, undef, undef, undef, undef, undef, undef, undef, undef, undef, undef, undef, undef, undef, undef, undef], defers := [] } ∧ W'.heap[P]? = some (.cells #[.int .i64 (fT k), .slice (some ⟨g, fO o k, none⟩) (fZ n k).length (fC c k)] 141) ∧ (W.heap.size + 5 ≤ P ∧ ∀ vo, W'.heap[W.heap.size]? = some (.cells #[vo] 137) → ¬ some P = vo.ownBlock) ∧ fI W W.heap.size (W.heap.size + 5) n k W' ∧ fldSt g o c n (W.heap.size + 4) k W'
theorem fldSt.keep {S : Nat → Prop} {g o c n bx k : Nat} {A A' : World} (h : fldSt g o c n bx k A) (hm : Mod S A A') (h1 : ¬ S bx) (h2 : ¬ S g) : fldSt g o c n bx k A' := ⟨hm.heap h.1 h1, h.2.mod hm h2⟩
set_option maxHeartbeats 4000000 in
theorem fieldRead_any (g o c n : Nat) (hn : n ≤ 246) (hc : 8 ≤ c) (W : World) (h : BodyAt W g o n) :
    Calls Tryz.prog 85 #[.slice (some ⟨g, o, none⟩) 8 c] W fun e w' => ∃ v v1 v2, e = .returned (.tuple #[v, .int .i64 0, .int .i64 0]) ∧ FieldsOwn w' W.heap.size v [(1, v1, [(n : Int)]), (3, v2, [248, 1, 85])] ∧ Below W.heap.size W w' := by
  obtain ⟨i1, hi, hz0, hz1, hz2⟩ := info_parts infoField2
  have HBD := Lib.hid h
  clear h
  refine (callsIn_wide (n := 8)).1 ?_
  refine callsIn_of_wp_marks Tryz.func85 rfl trivial ?_ rfl
  simp only [Tryz.ntmps85, List.size_toArray, List.length_cons, List.length_nil, Nat.reduceAdd, Nat.reduceSub, Array.replicate_succ, Array.replicate_zero, List.push_toArray, List.append_toArray, List.nil_append, List.cons_append]
  refine wpIn_wide.2 ?_
  go_wp2_with fail
  go_step3
  go_wp2_with fail
  go_step3
  go_upto_region 5 with fail
  obtain ⟨hh1, hh2, hh3, hh4⟩ := four_new_ W (.cells #[.slice none 0 0] 137) (.cells #[.int .i64 0] 3) (.cells #[.int .i64 16384] 3) (.cells #[.int .i64 (-1)] 3)
  have hs4 : ((((W.alloc (.cells #[.slice none 0 0] 137)).alloc (.cells #[.int .i64 0] 3)).alloc (.cells #[.int .i64 16384] 3)).alloc (.cells #[.int .i64 (-1)] 3)).heap.size = W.heap.size + 4 := by simp
  have hm4 : Mod (fun _ => False) W ((((W.alloc (.cells #[.slice none 0 0] 137)).alloc (.cells #[.int .i64 0] 3)).alloc (.cells #[.int .i64 16384] 3)).alloc (.cells #[.int .i64 (-1)] 3)) := ((((Mod.refl _ _).alloc _).alloc _).alloc _).alloc _
  generalize ((((W.alloc (.cells #[.slice none 0 0] 137)).alloc (.cells #[.int .i64 0] 3)).alloc (.cells #[.int .i64 16384] 3)).alloc (.cells #[.int .i64 (-1)] 3)) = W4 at *
  have HH1 := Lib.hid hh1
  have HH2 := Lib.hid hh2
  have HH3 := Lib.hid hh3
  have HH4 := Lib.hid hh4
  have HS4 := Lib.hid hs4
  have HM4 := Lib.hid hm4
  clear hh1 hh2 hh3 hh4 hs4 hm4
  go_wp2_with fail
  refine (fields_any (some ⟨g, o, none⟩) 8 c W4).mono ?_; rintro e W5 ⟨rfl, hW5⟩
  have HM5 : Hid (Mod (fun _ => False) W4 (W4.alloc (.cells #[.slice (some ⟨g, o, none⟩) 8 c] 25))) := (Mod.refl _ _).alloc _
  have HX5 := Lib.hid (World.alloc_heap_new W4 (.cells #[.slice (some ⟨g, o, none⟩) 8 c] 25))
  have HS5 : Hid ((W4.alloc (.cells #[.slice (some ⟨g, o, none⟩) 8 c] 25)).heap.size = W4.heap.size + 1) := by simp [Hid]
  rw [← hW5] at HM5 HX5 HS5
  clear hW5
  rw [HS4.out] at HX5 HS5
  simp only [HS4.out]
  go_wp2_with fail
  have hm05 := HM4.out.trans HM5.out
  have HST : Hid (fldSt g o c n (W.heap.size + 4) 0 W5) := ⟨HX5.out, HBD.out.mod hm05 (by simp)⟩
  have HI0 : Hid (fI W W.heap.size (W.heap.size + 5) n 0 W5) := ⟨⟨_, [], HM5.out.heap HH1.out (by simp), ⟨owns_nil _ _ _ _, fun f hf => absurd hf (by simp)⟩, rfl⟩, HM5.out.heap HH2.out (by simp), HM5.out.heap HH3.out (by simp), HM5.out.heap HH4.out (by simp), hm05.below (Nat.le_refl _) (by simp), by have := HS5.out; omega⟩
  clear hm05 HH1 HH2 HH3 HH4 HM4 HM5 HX5
  have hgW : g < W.heap.size := World.block_lt_of_cell? W _ (HBD.out 0 (by omega))
  refine (wpIn_wide (n := 8)).1 ?_
  refine wpIn_rangeFunc_st2 rfl (by omega) (gf := 166) (lb := #[.pointer (some ⟨W.heap.size + 4, 0, none⟩)]) rfl trivial (enters_of Tryz.func166 (by kernel_rfl) rfl) (fun _ => rfl)
    (fields1_st 7 (by omega) g o c n (W.heap.size + 4) hn hc)
    (fun k hk => hk.elim)
    (fun A' hA => HST.out.keep (Mod.of_below hA) (by have := HS5.out; omega) (by have := HS5.out; omega))
    (fun k A' l o1 o' hl hlo ho hS => hS.keep (mod_put_ A' l o') (by have := HS5.out; omega) (by have := HS5.out; omega))
    (fI W W.heap.size (W.heap.size + 5) n)
    (fun k A' A'' hI' hm => hI'.keep hm (fun q hq => hq))
    (fun k A' l o1 o' hl hlo ho hI' => hI'.put _ hlo ho (by have := HS5.out; omega))
    HI0.out
    (fAs W g o c n)
    (fun k a' A' l o1 o' hl hlo ho hA => by
      obtain ⟨P, h1, h2, h3, h4, h5⟩ := hA
      have hne : ¬ P = l := fun e => by rw [e, hlo] at h2; cases h2; cases ho
      exact ⟨P, h1, (mod_put_ A' l o').heap h2 hne, ⟨h3.1, fun vo hvo => h3.2 vo (by rw [← hvo]; exact ((mod_put_ A' l o').block _ (by obtain ⟨⟨vo, fs, hq, -⟩, -⟩ := h4; exact (Array.getElem?_eq_some_iff.1 hq).1) (by have := HS5.out; omega)).symm)⟩, h4.put _ hlo ho (by have := HS5.out; omega), h5.keep (mod_put_ A' l o') (by have := HS5.out; omega) (by have := HS5.out; omega)⟩)
    ?assign ?body ?done
  case assign =>
    intro l k x Wc K hk hsz hI' hY hK
    obtain ⟨rfl, hst⟩ := hY
    rw [fldX_eq g o c n k hk]
    gi_wp2
    have hma : Mod (fun _ => False) Wc (Wc.alloc (.cells #[.int .i64 (fT k), .slice (some ⟨g, fO o k, none⟩) (fZ n k).length (fC c k)] 141)) := (Mod.refl _ _).alloc _
    exact hK _ _ (keepsFrom_mod_ hma (fun q o1 _ h => h.elim)) ⟨Wc.heap.size, rfl, World.alloc_heap_new _ _, ⟨by have := HS5.out; omega, fun vo hvo => by
      obtain ⟨⟨vo', fs, hq, hfo, -⟩, -⟩ := hI'
      have h9 := hma.heap hq (fun h => h)
      rw [hvo] at h9
      cases h9
      intro e
      exact Nat.lt_irrefl _ (ownBlock_lt_ hfo.1 e.symm)⟩, hI'.keep hma (fun q h => h), hst.keep hma (by simp) (by simp)⟩
  case body =>
    intro l k a' Wc hk hA
    obtain ⟨P, rfl, hP, ⟨hPn, hnp⟩, ⟨⟨vo, fs, ho1, hfo, hsp⟩, hla, hle, hwr, hbel, hn1⟩, hst⟩ := hA
    have hnum : fLa k < fT k ∧ fT k ≤ 200 ∧ 0 ≤ fT k ∧ ((fZ n k).length : Int) ≤ fLe k ∧ fLe k ≤ 16384 ∧ 0 < (fZ n k).length ∧ (fZ n k).length ≤ 3 ∧ fs.length ≤ 1 ∧ fS n (k + 1) = fS n k ++ [(fT k, fZ n k)] ∧ fLa (k + 1) = fT k ∧ fLe (k + 1) = fLe k - ((fZ n k).length : Int) ∧ Reads .u8 Wc (.slice (some ⟨g, fO o k, none⟩) (fZ n k).length (fC c k)) (fZ n k) := by
      have hl := congrArg List.length hsp
      rw [List.length_map] at hl
      obtain ⟨-, hbd⟩ := hst
      rcases k with _ | _ | k
      · refine ⟨by simp [fLa, fT], by simp [fT], by simp [fT], by simp [fZ, fLe], by simp [fLe], by simp [fZ], by simp [fZ], by rw [hl]; simp [fS], rfl, rfl, by simp [fLe, fZ], ?_⟩
        have := hbd 2 (by omega)
        simp [bodyR] at this
        exact reads_one_o_ this
      · refine ⟨by simp [fLa, fT], by simp [fT], by simp [fT], by simp [fZ, fLe], by simp [fLe], by simp [fZ], by simp [fZ], by rw [hl]; simp [fS], rfl, rfl, by simp [fLe, fZ], ?_⟩
        refine .inr ⟨g, o + 5, _, rfl, by unfold maxLen; simp [fZ], fun i hi => ?_⟩
        have := hbd (5 + i) (by simp [fZ] at hi; omega)
        rw [← Nat.add_assoc] at this
        rw [this]
        simp [fZ] at hi
        rcases i with _ | _ | _ | i
        · rfl
        · rfl
        · rfl
        · omega
      · omega
    obtain ⟨a1, a2, a3, a4, a5, a6, a7, a8, a9, a10, a11, hrd⟩ := hnum
    obtain ⟨p0, p1, -, -⟩ := pair_cells_ hP
    have q0 := cell_of_heap_ ho1
    have q1 := cell_of_heap_ hla
    have q2 := cell_of_heap_ hle
    have f0 : Wc.frozen? ⟨W.heap.size, 0, none⟩ = false := by simp [World.frozen?, ho1]
    have f1 : Wc.frozen? ⟨W.heap.size + 1, 0, none⟩ = false := by simp [World.frozen?, hla]
    have f2 : Wc.frozen? ⟨W.heap.size + 1 + 1, 0, none⟩ = false := by simp [World.frozen?, hle]
    obtain ⟨va, vc, e⟩ := ownsRow_form hfo.1
    subst e
    have HNP := Lib.hid (hnp _ ho1)
    clear hnp
    have HP := Lib.hid hP
    have HO1 := Lib.hid ho1
    have HFO := Lib.hid hfo
    have HSP := Lib.hid hsp
    have HLA := Lib.hid hla
    have HLE := Lib.hid hle
    have HWR := Lib.hid hwr
    have HBEL := Lib.hid hbel
    have HSTK := Lib.hid hst
    have HRD := Lib.hid hrd
    have HS1 := Lib.hid a9
    have HLA1 := Lib.hid a10
    have HLE1 := Lib.hid a11
    clear hP ho1 hfo hsp hla hle hwr hbel hst hrd a9 a10 a11
    generalize fT k = t at *
    generalize hzz : fZ n k = zs at *
    generalize hml : zs.length = m at *
    have HML := Lib.hid hml
    have HZZ := Lib.hid hzz
    clear hml hzz
    generalize fLa k = la at *
    generalize fLe k = le at *
    generalize fO o k = oo at *
    generalize fC c k = cc at *
    generalize hN : W.heap.size = N at *
    have HN := Lib.hid hN
    clear hN
    generalize hfl : fs.length = fl at *
    have HFL := Lib.hid hfl
    clear hfl
    have hflI : (fl : Int) ≤ 1 := by omega
    have w1 : IntKind.i64.wrap (le - (m : Int)) = le - (m : Int) := by rw [IntKind.wrap_i64]; omega
    gi_wp2
    have hP1 : ¬ P = N + 1 := by omega
    have hP2 : ¬ P = N + 1 + 1 := by omega
    refine region_in_round (by kernel_rfl) (by rintro ⟨a, w, h⟩; exact h) (by kernel_rfl) ?_
    have hHeld : (fun w' : World => w'.cell? ⟨P, 0, none⟩ = some (.int .i64 t) ∧ w'.cell? ⟨P, 1, none⟩ = some (.slice (some ⟨g, oo, none⟩) m cc) ∧ w'.cell? ⟨N + 1 + 1, 0, none⟩ = some (.int .i64 le)) Wc.drew := ⟨p0, p1, q2⟩
    refine Held.wpAny_of_wpT (S := fun w' : World => w'.cell? ⟨P, 0, none⟩ = some (.int .i64 t) ∧ w'.cell? ⟨P, 1, none⟩ = some (.slice (some ⟨g, oo, none⟩) m cc) ∧ w'.cell? ⟨N + 1 + 1, 0, none⟩ = some (.int .i64 le)) (s := 8) _ _ _ _ ?_
    (refine Held.wpT_takeY (i := 0) (oi := { dst := Option.some 40, op := Go.Op.fieldAddr 141 (Go.Operand.tmp 10) 0, type := 0, pos := "field.go:97", after := #[], guard := Option.none }) (v := ?_) rfl (by decide) (by kernel_rfl) (by decide +kernel) (by decide +kernel) (fun _ _ _ h => h) (Or.inl ⟨by rfl, ?_⟩) (by assumption) ?_; rotate_left; (focus (intro w; go_simp; try with_reducible rfl)); simp only [Act.put, List.setIfInBounds_toArray, List.set_cons_zero, List.set_cons_succ])
    (refine Held.wpT_takeY (i := 3) (oi := { dst := Option.some 43, op := Go.Op.fieldAddr 141 (Go.Operand.tmp 10) 1, type := 0, pos := "field.go:97", after := #[], guard := Option.none }) (v := ?_) rfl (by decide) (by kernel_rfl) (by decide +kernel) (by decide +kernel) (fun _ _ _ h => h) (Or.inl ⟨by rfl, ?_⟩) (by assumption) ?_; rotate_left; (focus (intro w; go_simp; try with_reducible rfl)); simp only [Act.put, List.setIfInBounds_toArray, List.set_cons_zero, List.set_cons_succ])
    (refine Held.wpT_take (i := 1) (oi := { dst := Option.some 41, op := Go.Op.load 3 (Go.Operand.tmp 40), type := 3, pos := "field.go:97", after := #[{ on := 0, ground := Go.Ground.data }], guard := Option.none }) (v := ?_) rfl rfl (by kernel_rfl) (by decide) (by kernel_rfl) (by kernel_rfl) (by kernel_rfl) (fun _ _ _ h => h) (Or.inl ⟨by rfl, ?_⟩) (by assumption) ?_; rotate_left; (focus (intro w hSw; (try dsimp only at hSw); go_simp; try with_reducible rfl)); simp only [Act.put, List.setIfInBounds_toArray, List.set_cons_zero, List.set_cons_succ])
    (refine Held.wpT_take (i := 2) (oi := { dst := Option.some 42, op := Go.Op.load 3 (Go.Operand.tmp 7), type := 3, pos := "field.go:97", after := #[], guard := Option.none }) (v := ?_) rfl rfl (by kernel_rfl) (by decide) (by kernel_rfl) (by kernel_rfl) (by kernel_rfl) (fun _ _ _ h => h) (Or.inl ⟨by rfl, ?_⟩) (by assumption) ?_; rotate_left; (focus (intro w hSw; (try dsimp only at hSw); go_simp; try with_reducible rfl)); simp only [Act.put, List.setIfInBounds_toArray, List.set_cons_zero, List.set_cons_succ])
    (refine Held.wpT_take (i := 4) (oi := { dst := Option.some 44, op := Go.Op.load 25 (Go.Operand.tmp 43), type := 25, pos := "field.go:97", after := #[{ on := 3, ground := Go.Ground.data }], guard := Option.none }) (v := ?_) rfl rfl (by kernel_rfl) (by decide) (by kernel_rfl) (by kernel_rfl) (by kernel_rfl) (fun _ _ _ h => h) (Or.inl ⟨by rfl, ?_⟩) (by assumption) ?_; rotate_left; (focus (intro w hSw; (try dsimp only at hSw); go_simp; try with_reducible rfl)); simp only [Act.put, List.setIfInBounds_toArray, List.set_cons_zero, List.set_cons_succ])
    (refine Held.wpT_takeY (i := 5) (oi := { dst := Option.some 45, op := Go.Op.call { callee := Go.Callee.builtin Go.Builtin.len, args := #[Go.Operand.tmp 44], argTypes := #[25] }, type := 3, pos := "field.go:97", after := #[{ on := 4, ground := Go.Ground.data }], guard := Option.none }) (v := ?_) rfl (by decide) (by kernel_rfl) (by decide +kernel) (by decide +kernel) (fun _ _ _ h => h) (Or.inl ⟨by rfl, ?_⟩) (by assumption) ?_; rotate_left; (focus (intro w; go_simp; try with_reducible rfl)); simp only [Act.put, List.setIfInBounds_toArray, List.set_cons_zero, List.set_cons_succ])
    (refine Held.wpT_takeY (i := 6) (oi := { dst := Option.some 46, op := Go.Op.binOp Go.BinOp.sub 3 (Go.Operand.tmp 42) (Go.Operand.tmp 45) 3, type := 3, pos := "field.go:97", after := #[{ on := 2, ground := Go.Ground.data }, { on := 5, ground := Go.Ground.data }], guard := Option.none }) (v := ?_) rfl (by decide) (by kernel_rfl) (by decide +kernel) (by decide +kernel) (fun _ _ _ h => h) (Or.inl ⟨by rfl, ?_⟩) (by assumption) ?_; rotate_left; (focus (intro w; go_simp; try with_reducible rfl)); simp only [Act.put, List.setIfInBounds_toArray, List.set_cons_zero, List.set_cons_succ])
    refine Held.wpT_ready (rs := [7]) (by decide +kernel) (by simp) (Held.AllT.cons (i := 7) (o := { dst := Option.none, op := Go.Op.store 3 (Go.Operand.tmp 6) (Go.Operand.tmp 41), type := 0, pos := "field.go:97", after := #[{ on := 1, ground := Go.Ground.data }, { on := 0, ground := Go.Ground.phase }, { on := 1, ground := Go.Ground.phase }, { on := 2, ground := Go.Ground.textOnly Go.Departure.inlinedCapture }, { on := 3, ground := Go.Ground.textOnly Go.Departure.lateStores }, { on := 4, ground := Go.Ground.textOnly Go.Departure.lateStores }, { on := 5, ground := Go.Ground.textOnly Go.Departure.lateStoresUnsure }, { on := 6, ground := Go.Ground.textOnly Go.Departure.inlinedCapture }], guard := Option.none }) rfl (by decide) (fun K hK => ?_) Held.AllT.nil)
    (go_simp)
    (refine hK.out _ _ (by exact ⟨(mod_set_ Wc (N + 1) 0 _).cell hP1 p0, (mod_set_ Wc (N + 1) 0 _).cell hP1 p1, (mod_set_ Wc (N + 1) 0 _).cell (by show ¬ (N + 1 + 1 = N + 1); omega) q2⟩) (fun hH2 => ?_); replace hHeld := hH2; clear hH2 hK K; try simp only [Act.put, List.setIfInBounds_toArray, List.set_cons_zero, List.set_cons_succ])
    (refine Held.wpT_ready (rs := [8]) (by kernel_rfl) (by simp) (Held.AllT.stop (o := { dst := Option.none, op := Go.Op.store 3 (Go.Operand.tmp 7) (Go.Operand.tmp 46), type := 0, pos := "field.go:97", after := #[{ on := 6, ground := Go.Ground.data }, { on := 7, ground := Go.Ground.chain }, { on := 0, ground := Go.Ground.phase }, { on := 1, ground := Go.Ground.phase }, { on := 2, ground := Go.Ground.phase }, { on := 3, ground := Go.Ground.phase }, { on := 4, ground := Go.Ground.phase }, { on := 5, ground := Go.Ground.phase }, { on := 6, ground := Go.Ground.phase }, { on := 7, ground := Go.Ground.phase }], guard := Option.none }) rfl (fun K hK => ?_)); clear hHeld; go_simp; refine hK.out _ _ ?_; clear hK K; try simp only [Act.put, List.setIfInBounds_toArray, List.set_cons_zero, List.set_cons_succ])
    refine wpAny_done (by kernel_rfl) ?_ _
    have hmA := mod_set_ Wc (N + 1) 0 (.int .i64 t)
    have hmB := mod_set_ (Wc.setCell ⟨N + 1, 0, none⟩ (.int .i64 t)) (N + 1 + 1) 0 (.int .i64 (le - (m : Int)))
    have hLA2 : ((Wc.setCell ⟨N + 1, 0, none⟩ (.int .i64 t)).setCell ⟨N + 1 + 1, 0, none⟩ (.int .i64 (le - (m : Int)))).heap[N + 1]? = some (.cells #[.int .i64 t] 3) := hmB.heap (by have := heap_set_ HLA.out 0 (.int .i64 t); simpa using this) (by omega)
    have hLE2 : ((Wc.setCell ⟨N + 1, 0, none⟩ (.int .i64 t)).setCell ⟨N + 1 + 1, 0, none⟩ (.int .i64 (le - (m : Int)))).heap[N + 1 + 1]? = some (.cells #[.int .i64 (le - (m : Int))] 3) := by
      have := heap_set_ (hmA.heap HLE.out (by omega)) 0 (.int .i64 (le - (m : Int)))
      simpa using this
    have hmt : Mod (fun q => q = N + 1 ∨ q = N + 1 + 1) Wc ((Wc.setCell ⟨N + 1, 0, none⟩ (.int .i64 t)).setCell ⟨N + 1 + 1, 0, none⟩ (.int .i64 (le - (m : Int)))) := (hmA.mono (fun _ _ h => .inl h)).trans (hmB.mono (fun _ _ h => .inr h))
    obtain ⟨W2, hW2⟩ : ∃ W2, W2 = ((Wc.setCell ⟨N + 1, 0, none⟩ (.int .i64 t)).setCell ⟨N + 1 + 1, 0, none⟩ (.int .i64 (le - (m : Int)))).drew := ⟨_, rfl⟩
    have HMT : Hid (Mod (fun q => q = N + 1 ∨ q = N + 1 + 1) Wc W2) := by rw [hW2]; exact hmt.drew
    have HLA2 : Hid (W2.heap[N + 1]? = some (.cells #[.int .i64 t] 3)) := by rw [hW2]; exact hLA2
    have HLE2 : Hid (W2.heap[N + 1 + 1]? = some (.cells #[.int .i64 (le - (m : Int))] 3)) := by rw [hW2]; exact hLE2
    rw [← hW2]
    clear hmA hmB hLA2 hLE2 hmt hW2 p0 p1 q0 q1 q2 f0 f1 f2
    have hsz2 : Wc.heap.size ≤ W2.heap.size := HMT.out.size
    have hNlt : N < Wc.heap.size := (Array.getElem?_eq_some_iff.1 HO1.out).1
    have HP2 := Lib.hid (HMT.out.heap HP.out (by omega))
    have HO2 := Lib.hid (HMT.out.heap HO1.out (by omega))
    have HWR2 := Lib.hid (HMT.out.heap HWR.out (by omega))
    have HFO2 := Lib.hid (HFO.out.mod HMT.out (fun q hq => by omega))
    have HST2 := Lib.hid (HSTK.out.keep HMT.out (by omega) (by omega))
    have HRD2 := Lib.hid (HRD.out.mod HMT.out (by
      intro b hb
      have : g = b := by simpa [Value.ownBlock] using hb
      omega))
    obtain ⟨p0, p1, -, -⟩ := pair_cells_ HP2.out
    have q0 := cell_of_heap_ HO2.out
    have f0 : W2.frozen? ⟨N, 0, none⟩ = false := by simp [World.frozen?, HO2.out]
    have hnN : ¬ some N = (Value.slice va fl vc).ownBlock := own_other_ HFO2.out.1 HO2.out (by decide)
    gi_wp2
    refine region_in_round (by kernel_rfl) (by rintro ⟨a, w, h⟩; exact h) (by kernel_rfl) ?_
    have hHeld : (fun w' : World => w'.cell? ⟨P, 0, none⟩ = some (.int .i64 t) ∧ w'.cell? ⟨P, 1, none⟩ = some (.slice (some ⟨g, oo, none⟩) m cc) ∧ w'.cell? ⟨N, 0, none⟩ = some (.slice va fl vc)) W2.drew := ⟨p0, p1, q0⟩
    refine Held.wpAny_of_wpT (S := fun w' : World => w'.cell? ⟨P, 0, none⟩ = some (.int .i64 t) ∧ w'.cell? ⟨P, 1, none⟩ = some (.slice (some ⟨g, oo, none⟩) m cc) ∧ w'.cell? ⟨N, 0, none⟩ = some (.slice va fl vc)) (s := 9) _ _ _ _ ?_
    (refine Held.wpT_takeY (i := 1) (oi := { dst := Option.some 48, op := Go.Op.fieldAddr 141 (Go.Operand.tmp 10) 0, type := 0, pos := "field.go:98", after := #[], guard := Option.none }) (v := ?_) rfl (by decide) (by kernel_rfl) (by decide +kernel) (by decide +kernel) (fun _ _ _ h => h) (Or.inl ⟨by rfl, ?_⟩) (by assumption) ?_; rotate_left; (focus (intro w; go_simp; try with_reducible rfl)); simp only [Act.put, List.setIfInBounds_toArray, List.set_cons_zero, List.set_cons_succ])
    (refine Held.wpT_takeY (i := 3) (oi := { dst := Option.some 50, op := Go.Op.fieldAddr 141 (Go.Operand.tmp 10) 1, type := 0, pos := "field.go:98", after := #[], guard := Option.none }) (v := ?_) rfl (by decide) (by kernel_rfl) (by decide +kernel) (by decide +kernel) (fun _ _ _ h => h) (Or.inl ⟨by rfl, ?_⟩) (by assumption) ?_; rotate_left; (focus (intro w; go_simp; try with_reducible rfl)); simp only [Act.put, List.setIfInBounds_toArray, List.set_cons_zero, List.set_cons_succ])
    (refine Held.wpT_take (i := 0) (oi := { dst := Option.some 47, op := Go.Op.load 137 (Go.Operand.tmp 5), type := 137, pos := "field.go:98", after := #[], guard := Option.none }) (v := ?_) rfl rfl (by kernel_rfl) (by decide) (by kernel_rfl) (by kernel_rfl) (by kernel_rfl) (fun _ _ _ h => h) (Or.inl ⟨by rfl, ?_⟩) (by assumption) ?_; rotate_left; (focus (intro w hSw; (try dsimp only at hSw); go_simp; try with_reducible rfl)); simp only [Act.put, List.setIfInBounds_toArray, List.set_cons_zero, List.set_cons_succ])
    (refine Held.wpT_take (i := 2) (oi := { dst := Option.some 49, op := Go.Op.load 3 (Go.Operand.tmp 48), type := 3, pos := "field.go:98", after := #[{ on := 1, ground := Go.Ground.data }], guard := Option.none }) (v := ?_) rfl rfl (by kernel_rfl) (by decide) (by kernel_rfl) (by kernel_rfl) (by kernel_rfl) (fun _ _ _ h => h) (Or.inl ⟨by rfl, ?_⟩) (by assumption) ?_; rotate_left; (focus (intro w hSw; (try dsimp only at hSw); go_simp; try with_reducible rfl)); simp only [Act.put, List.setIfInBounds_toArray, List.set_cons_zero, List.set_cons_succ])
    (refine Held.wpT_take (i := 4) (oi := { dst := Option.some 51, op := Go.Op.load 25 (Go.Operand.tmp 50), type := 25, pos := "field.go:98", after := #[{ on := 3, ground := Go.Ground.data }], guard := Option.none }) (v := ?_) rfl rfl (by kernel_rfl) (by decide) (by kernel_rfl) (by kernel_rfl) (by kernel_rfl) (fun _ _ _ h => h) (Or.inl ⟨by rfl, ?_⟩) (by assumption) ?_; rotate_left; (focus (intro w hSw; (try dsimp only at hSw); go_simp; try with_reducible rfl)); simp only [Act.put, List.setIfInBounds_toArray, List.set_cons_zero, List.set_cons_succ])
    refine Held.wpT_ready (rs := [5]) (by decide +kernel) (by simp) (Held.AllT.cons (i := 5) (o := { dst := Option.some 52, op := Go.Op.call { callee := Go.Callee.value (Go.Operand.func 80), args := #[Go.Operand.tmp 51], argTypes := #[25] }, type := 25, pos := "field.go:98", after := #[{ on := 4, ground := Go.Ground.data }], guard := Option.none }) rfl (by decide) (fun K hK => ?_) Held.AllT.nil)
    (go_simp; go_at_call 80; refine (sClone_bytes _ zs _ (by exact HRD2.out) (by rw [HML.out]; omega) (by rw [HML.out]; omega)).mono ?_; rintro e y1 ⟨v1, rfl, hov, hb1⟩; rw [HML.out] at hov; obtain ⟨v1a, v1c, e1⟩ := ownsRow_form hov; subst e1; have HY1 : Hid (Mod (fun _ => False) W2 y1) := Mod.of_same (below_step_ (by repeat (first | exact Below.refl _ _ | refine below_drew_ ?_ | refine below_alloc_ ?_ _)) hb1); have HV1 := Lib.hid (ownsRow_base hov (base' := N + 5) (by show N + 5 ≤ W2.heap.size; omega)); clear hov hb1; try dsimp only)
    (refine hK.out _ _ (by exact ⟨HY1.out.cell (by simp) p0, HY1.out.cell (by simp) p1, HY1.out.cell (by simp) q0⟩) (fun hH2 => ?_); replace hHeld := hH2; clear hH2 hK K; try simp only [Act.put, List.setIfInBounds_toArray, List.set_cons_zero, List.set_cons_succ])
    (refine Held.wpT_takeY (i := 6) (oi := { dst := Option.some 53, op := Go.Op.build 141 #[(0, Go.Operand.tmp 49), (1, Go.Operand.tmp 52)], type := 141, pos := "field.go:98", after := #[{ on := 2, ground := Go.Ground.data }, { on := 5, ground := Go.Ground.data }], guard := Option.none }) (v := ?_) rfl (by decide) (by kernel_rfl) (by decide +kernel) (by decide +kernel) (fun _ _ _ h => h) (Or.inl ⟨by rfl, ?_⟩) (by assumption) ?_; rotate_left; (focus (intro w; go_simp; try with_reducible rfl)); simp only [Act.put, List.setIfInBounds_toArray, List.set_cons_zero, List.set_cons_succ])
    refine Held.wpT_ready (rs := [7]) (by decide +kernel) (by simp) (Held.AllT.cons (i := 7) (o := { dst := Option.some 54, op := Go.Op.buildSlice 137 1 #[(0, Go.Operand.tmp 53)], type := 137, pos := "field.go:98", after := #[{ on := 6, ground := Go.Ground.data }], guard := Option.none }) rfl (by decide) (fun K hK => ?_) Held.AllT.nil)
    (go_simp)
    (refine hK.out _ _ (by exact ⟨((Mod.refl (fun _ => False) y1).alloc _).cell (by simp) (HY1.out.cell (by simp) p0), ((Mod.refl (fun _ => False) y1).alloc _).cell (by simp) (HY1.out.cell (by simp) p1), ((Mod.refl (fun _ => False) y1).alloc _).cell (by simp) (HY1.out.cell (by simp) q0)⟩) (fun hH2 => ?_); replace hHeld := hH2; clear hH2 hK K; try simp only [Act.put, List.setIfInBounds_toArray, List.set_cons_zero, List.set_cons_succ])
    refine Held.wpT_ready (rs := [8]) (by decide +kernel) (by simp) (Held.AllT.cons (i := 8) (o := { dst := Option.some 55, op := Go.Op.call { callee := Go.Callee.builtin Go.Builtin.append, args := #[Go.Operand.tmp 47, Go.Operand.tmp 54], argTypes := #[137, 137] }, type := 137, pos := "field.go:98", after := #[{ on := 0, ground := Go.Ground.data }, { on := 7, ground := Go.Ground.data }, { on := 5, ground := Go.Ground.chain }], guard := Option.none }) rfl (by decide) (fun K hK => ?_) Held.AllT.nil)
    (refine step_append_lies _ (by rfl) _ _ _ (by rfl) (N + 5) 141 i1 _ 2 32 Tryz.underlying137 hi hz0 hz1 hz2 rfl (by omega) (.slice va fl vc) fl (fCells fs) (by rfl) ((FieldsOwn.mod HFO2.out HY1.out (fun _ _ h => h)).1.alloc _ |> fun h => by rw [HFL.out] at h; exact h) ⟨y1.heap.size, 0, none⟩ 1 1 [.int .i64 t, .slice v1a m v1c] (by rfl) (by rfl) (news_two_ (by simp) (by simp)) (by simp [Value.oneCell']) (by omega) (by unfold maxLen; omega) (by omega) (by have := HY1.out.size; simp; omega) _ (by rfl) ?_; intro g3 c3 w3 hown3 hgrow3 hat3 hlt3; have HO3 := Lib.hid hown3; have hgr3 : (y1.alloc (.cells #[.int .i64 t, .slice v1a m v1c] 141)).grownBy w3 (Value.slice va fl vc).ownBlock := hgrow3; have HM3 := Lib.hid (((Mod.refl _ y1).alloc _).trans (Mod.of_grownBy hgr3)); clear hown3 hgrow3 hat3 hlt3 hgr3)
    (refine hK.out _ _ (by exact ⟨HM3.out.cell HNP.out (HY1.out.cell (by simp) p0), HM3.out.cell HNP.out (HY1.out.cell (by simp) p1), HM3.out.cell hnN (HY1.out.cell (by simp) q0)⟩) (fun hH2 => ?_); replace hHeld := hH2; clear hH2 hK K; try simp only [Act.put, List.setIfInBounds_toArray, List.set_cons_zero, List.set_cons_succ])
    have q9 := HM3.out.cell hnN (HY1.out.cell (by simp) q0)
    have f9 : w3.frozen? ⟨N, 0, none⟩ = false := ((HM3.out.frozen (p := ⟨N, 0, none⟩) (by have := HY1.out.size; show N < y1.heap.size; omega) hnN).trans (HY1.out.frozen (p := ⟨N, 0, none⟩) (by show N < W2.heap.size; omega) (by simp))).trans f0
    (refine Held.wpT_ready (rs := [9]) (by kernel_rfl) (by simp) (Held.AllT.stop (o := { dst := Option.none, op := Go.Op.store 137 (Go.Operand.tmp 5) (Go.Operand.tmp 55), type := 0, pos := "field.go:98", after := #[{ on := 8, ground := Go.Ground.data }, { on := 8, ground := Go.Ground.chain }, { on := 0, ground := Go.Ground.phase }, { on := 1, ground := Go.Ground.phase }, { on := 2, ground := Go.Ground.phase }, { on := 3, ground := Go.Ground.phase }, { on := 4, ground := Go.Ground.phase }, { on := 5, ground := Go.Ground.phase }, { on := 6, ground := Go.Ground.phase }, { on := 7, ground := Go.Ground.phase }, { on := 8, ground := Go.Ground.phase }], guard := Option.none }) rfl (fun K hK => ?_)); clear hHeld; go_simp; refine hK.out _ _ ?_; clear hK K; try simp only [Act.put, List.setIfInBounds_toArray, List.set_cons_zero, List.set_cons_succ])
    refine wpAny_done (by kernel_rfl) ?_ _
    gi_wp2
    have hQN : w3.heap[N]? = some (.cells #[.slice va fl vc] 137) := HM3.out.heap (HY1.out.heap HO2.out (by simp)) hnN
    have hms := mod_set_ w3 N 0 (.slice (some ⟨g3, 0, none⟩) (fl + 1) c3)
    have hQN9 := heap_set_ hQN 0 (.slice (some ⟨g3, 0, none⟩) (fl + 1) c3)
    have hge : ∀ q, some q = (Value.slice va fl vc).ownBlock → N + 5 ≤ q := fun q h => ownBlock_ge_ HFO2.out.1 h.symm
    have hm2 : Mod (fun q => some q = (Value.slice va fl vc).ownBlock ∨ q = N) W2 (w3.setCell ⟨N, 0, none⟩ (.slice (some ⟨g3, 0, none⟩) (fl + 1) c3)) := ((HY1.out.mono (by simp)).trans (HM3.out.mono (fun _ _ h => .inl h))).trans (hms.mono (fun _ _ h => .inr h))
    have hm0 : Mod (fun q => (q = N + 1 ∨ q = N + 1 + 1) ∨ some q = (Value.slice va fl vc).ownBlock ∨ q = N) Wc (w3.setCell ⟨N, 0, none⟩ (.slice (some ⟨g3, 0, none⟩) (fl + 1) c3)) := (HMT.out.mono (fun _ _ h => .inl h)).trans (hm2.mono (fun _ _ h => .inr h))
    have hrow := owns_keep_at_ HO3.out hQN hms (by decide)
    have HV3 := owns_keep_at_ (owns_keep_ HV1.out (FieldsOwn.mod HFO2.out HY1.out (fun _ _ h => h)).1 HM3.out (by decide)) hQN hms (by decide)
    have hFl := HFL.out
    refine ⟨keepsFrom_mod_ hm0 ?_, ⟨⟨.slice (some ⟨g3, 0, none⟩) (fl + 1) c3, fs ++ [(t, .slice v1a m v1c, zs)], by simpa using hQN9, ⟨?_, ?_⟩, ?_⟩, ?_, ?_, ?_, ?_, ?_⟩, ?_⟩
    · rintro q o1 hq ((h | h) | h | h) ho
      · have := HS5.out; omega
      · have := HS5.out; omega
      · exact own_isCells_ HFO.out.1 h ho
      · have := HS5.out; omega
    · rw [show (fs ++ [(t, Value.slice v1a m v1c, zs)]).length = fl + 1 by simp [hFl], show fCells (fs ++ [(t, Value.slice v1a m v1c, zs)]) = fCells fs ++ [.int .i64 t, .slice v1a m v1c] by simp [fCells]]
      exact hrow
    · intro f hf
      rcases List.mem_append.1 hf with hf | hf
      · exact owns_keep_at_ (owns_keep_ (ownsRow_mod (HFO2.out.2 f hf) HY1.out (by simp)) (FieldsOwn.mod HFO2.out HY1.out (fun _ _ h => h)).1 HM3.out (by decide)) hQN hms (by decide)
      · obtain rfl := List.mem_singleton.1 hf
        show World.ownsRow _ (N + 5) 5 1 (.slice v1a m v1c) zs.length (u8s zs)
        rw [HML.out]
        exact HV3
    · rw [List.map_append, HSP.out, HS1.out]
      rfl
    · rw [HLA1.out]
      exact hm2.heap HLA2.out (by rintro (h | h); have := hge _ h; omega; omega)
    · rw [HLE1.out]
      exact hm2.heap HLE2.out (by rintro (h | h); have := hge _ h; omega; omega)
    · exact hm2.heap HWR2.out (by rintro (h | h); have := hge _ h; omega; omega)
    · exact HBEL.out.trans (hm0.below (by omega) (by rintro q hq ((h | h) | h | h); omega; omega; have := hge _ h; omega; omega))
    · exact Nat.le_trans hn1 hm0.size
    · exact HSTK.out.keep hm0 (by rintro ((h | h) | h | h); omega; omega; have := hge _ h; omega; omega) (by rintro ((h | h) | h | h); omega; omega; have := hge _ h; omega; omega)
  case done =>
    intro D Wc hD hI' hS hK
    obtain ⟨⟨vo, fs, ho1, hfo, hsp⟩, -, -, hwr, hbel, hn1⟩ := hI'
    have q0 := cell_of_heap_ ho1
    have q3 := cell_of_heap_ hwr
    have hNlt : W.heap.size < Wc.heap.size := (Array.getElem?_eq_some_iff.1 ho1).1
    have HFO := Lib.hid hfo
    have HSP := Lib.hid hsp
    have HBEL := Lib.hid hbel
    have HK := Lib.hid hK
    clear ho1 hfo hsp hwr hbel hK
    simp only [Exit.inBlock, Exit.then]
    go_wp2_with fail
    rw [Exit.noGoto_ret]
    refine ⟨by simp, .inl ⟨_, _, rfl, run_takeDeferred HK.out, ?_⟩⟩
    have hmp := mod_put_ Wc D (.deferred none)
    have hsp := HSP.out
    rcases fs with _ | ⟨⟨t1, v1, z1⟩, _ | ⟨⟨t2, v2, z2⟩, _ | ⟨f3, fs⟩⟩⟩
    · simp [fS] at hsp
    · simp [fS] at hsp
    · simp [fS] at hsp
      obtain ⟨⟨rfl, rfl⟩, rfl, rfl⟩ := hsp
      have hfo := HFO.out
      refine ⟨_, results_tmp3 rfl _ _ _, vo, v1, v2, rfl, ⟨ownsRow_base (ownsRow_putObj hfo.1 _ HK.out rfl) (by omega), fun f hf => ownsRow_base (ownsRow_putObj (hfo.2 f hf) _ HK.out rfl) (by omega)⟩, HBEL.out.trans (hmp.below (by omega) (fun q hq e => by have := HS5.out; omega))⟩
    · simp [fS] at hsp
end Resp
end Go.Proofs.YtdfmgneicdpjmaaGreat
