import Derived.Test.YtdfmgneicdpjmaaGreatM25
import Derived.Test.YtdfmgneicdpjmaaGreatM27
import Derived.Test.YtdfmgneicdpjmaaGreatM29
import Derived.Test.YtdfmgneicdpjmaaGreatM26
import Derived.Deep.LoopGhost
import Derived.Stop.RegionWithIn
/- check.facts. -/
namespace Go.Proofs.YtdfmgneicdpjmaaGreat
open Go.RowKit Go.Shelf
attribute [local go_sem] Oper.semAt_some
set_option linter.unusedVariables false
set_option linter.unusedSimpArgs false
set_option maxRecDepth 100000
namespace Eng
open Resp
attribute [-go_sem] Instr.storeAt Instr.loadAt
attribute [local go_sem] ld_opn st_opn fc_cells st_new_fc

theorem infoFact : (Tryz.prog.info? 541).map (fun i => (i.zero, i.size, i.bytes)) = some (some (fcV fcZ), 17, 136) := by kernel_rfl
/-- The facts of a right program. -/
def FctP (p : List Ins) (n : Nat) (W : World) (e : Ending) (w' : World) : Prop := ∃ B, e = .returned (.slice (some ⟨B, 0, none⟩) n n) ∧ FsAt w' B (fctF p) ∧ W.heap.size ≤ B ∧ (fctF p).length = n ∧ Below W.heap.size W w'
/-- The outer loop: the facts so far. -/
def FtO (p : List Ins) (n : Nat) (W : World) (g : Nat) (ds : List Deferred) (w : World) : Prop :=
  ∃ fs, hgtL fs = g ∧ fs.length = n ∧ FsAt w W.heap.size fs ∧ FcRun p (fcs0 n) fs ∧ w.heap[W.heap.size + 1]? = some (.cells #[.slice (some ⟨W.heap.size, 0, none⟩) n n] 535) ∧ Below W.heap.size W w ∧ Marks W.heap.size ds w
/-- The inner loop: nothing before k changes anything. -/
def FtI (p : List Ins) (n : Nat) (W : World) (fs : List Fc) (k : Nat) (ds : List Deferred) (w : World) : Prop :=
  FsAt w W.heap.size fs ∧ FcQuiet p fs k ∧ w.heap[W.heap.size + 1]? = some (.cells #[.slice (some ⟨W.heap.size, 0, none⟩) n n] 535) ∧ Below W.heap.size W w ∧ Marks W.heap.size ds w
theorem grd_fc (x y : Operand) (f g : Fc) (w : World) : (eqGuard .neq 541 x y (fcV f) (fcV g)).run Tryz.prog w = .ok () w := run_eqGuard_agg w .neq _ x y _ _ (by kernel_rfl)
attribute [local go_sem] grd_fc
theorem hands1_fe (m : Nat) (hm : 1 ≤ m) (bp bk bf b o n c k : Nat) (i : Ins) (f : Fc) (ho : InsOk i) (h1 : oneE i = 0) (hk : k < n) (hn : n ≤ 256) (hne : ¬ bp = bf ∧ ¬ bk = bf ∧ ¬ b = bf) :
    SeqFe Fence.wide m Tryz.prog 431 #[.pointer (some ⟨bp, 0, none⟩), .pointer (some ⟨bk, 0, none⟩), .pointer (some ⟨bf, 0, none⟩)] (fun x : Int × Fc => #[.int .i64 x.1, fcV x.2]) (fun g => g = bf)
      (HdSt bp bk bf b o n c k i f) (fun j x _ W => (handL i k f)[j]? = some x ∧ HdSt bp bk bf b o n c k i f (j + 1) W) (handL i k f).length := by
  obtain ⟨op, a, ib, ic, nn⟩ := i
  obtain ⟨ra, hra⟩ : ∃ ra : Nat, a = (ra : Int) := ⟨a.toNat, by have := ho.a0; simp only at this; omega⟩
  subst hra
  exact hands1_ops m hm bp bk bf b o n c k ra op ib ic nn f ho h1 hk hn hne
/-- The loop over what is handed on: nothing has changed anything. -/
def FhI (fs : List Fc) (hl : List (Int × Fc)) (w2 : World) (bf : Nat) (j : Nat) (A : World) : Prop := Mod (fun g => g = bf) w2 A ∧ ∀ x ∈ hl.take j, ∀ o, fs[x.1.toNat]? = some o → fcE (nxF o x.2) o = true
theorem FhI.mod {fs : List Fc} {hl : List (Int × Fc)} {w2 A A' : World} {bf j : Nat} (h : FhI fs hl w2 bf j A) (hm : Mod (fun g => g = bf) A A') : FhI fs hl w2 bf j A' := ⟨h.1.trans hm, h.2⟩
theorem FhI.put {fs : List Fc} {hl : List (Int × Fc)} {w2 A : World} {bf j : Nat} (h : FhI fs hl w2 bf j A) {l : Nat} (o' : Obj) (hl' : w2.heap.size ≤ l) : FhI fs hl w2 bf j (A.putObj l o') := ⟨h.1.putObj (.inl hl') o', h.2⟩
/-- Where it is left: a fact has changed. -/
def FhX (B : Nat) (fs : List Fc) (hl : List (Int × Fc)) (w2 : World) (bf : Nat) (c : Code) (A : World) : Prop :=
  c = .exit 3 ∧ Mod (fun g => g = B ∨ g = bf) w2 A ∧ ∃ j x o, (hl[j]? = some x ∧ ∀ y ∈ hl.take j, ∀ o, fs[y.1.toNat]? = some o → fcE (nxF o y.2) o = true) ∧ fs[x.1.toNat]? = some o ∧ fcE (nxF o x.2) o = false ∧ FsAt A B (fs.set x.1.toNat (nxF o x.2))
theorem FhX.mod {B : Nat} {fs : List Fc} {hl : List (Int × Fc)} {w2 A A' : World} {bf : Nat} {c : Code} (h : FhX B fs hl w2 bf c A) (hB : ¬ B = bf) (hm : Mod (fun g => g = bf) A A') : FhX B fs hl w2 bf c A' := by
  obtain ⟨h1, h2, j, x, o, h3, h4, h5, h6⟩ := h
  exact ⟨h1, h2.trans (hm.mono (fun _ _ h => .inr h)), j, x, o, h3, h4, h5, hm.heap h6 hB⟩
theorem FhX.put {B : Nat} {fs : List Fc} {hl : List (Int × Fc)} {w2 A : World} {bf : Nat} {c : Code} (h : FhX B fs hl w2 bf c A) {l : Nat} {o : Obj} (o' : Obj) (hl' : w2.heap.size ≤ l) (hlo : A.heap[l]? = some o) (ho : o.isCells = false) : FhX B fs hl w2 bf c (A.putObj l o') := by
  obtain ⟨h1, h2, j, x, o, h3, h4, h5, h6⟩ := h
  exact ⟨h1, h2.putObj (.inl hl') o', j, x, o, h3, h4, h5, (mod_put_ A l o').heap h6 (fun e => by unfold FsAt at h6; rw [e, hlo] at h6; cases h6; cases ho)⟩
theorem HdSt.put {bp bk bf b o n c k : Nat} {i : Ins} {f : Fc} {j : Nat} {A : World} (h : HdSt bp bk bf b o n c k i f j A) {l : Nat} {ob : Obj} (o' : Obj) (hlo : A.heap[l]? = some ob) (ho : ob.isCells = false) : HdSt bp bk bf b o n c k i f j (A.putObj l o') := by
  obtain ⟨⟨h1, h2, h3⟩, h4⟩ := h
  have hm := mod_put_ A l o'
  have hne : ∀ {q : Nat} {cs : Array Value} {t : TypeId}, A.heap[q]? = some (.cells cs t) → ¬ q = l := fun hq e => by
    rw [e, hlo] at hq; cases hq; cases ho
  refine ⟨⟨hm.heap h1 (hne h1), hm.heap h2 (hne h2), hm.heap h3 (hne h3)⟩, h4.mod hm (fun e => ?_)⟩
  have h5 := h4.1
  subst e
  simp only [World.cell?, hlo] at h5
  cases ob with
  | cells => cases ho
  | _ => simp at h5
theorem HdSt.below {bp bk bf b o n c k : Nat} {i : Ins} {f : Fc} {W W' : World} (h : HdAt bp bk bf (.slice (some ⟨b, o, none⟩) n c) k f W) (hi : InsIn W b (o + k * 5) i) (hb : Below W.heap.size W W') : HdSt bp bk bf b o n c k i f 0 W' := by
  have hm : Mod (fun _ => False) W W' := Mod.of_same hb
  exact ⟨⟨hm.heap h.1 (fun h => h), hm.heap h.2.1 (fun h => h), hm.heap h.2.2 (fun h => h)⟩, hi.mod hm (fun h => h)⟩
theorem HdSt.mod {bp bk bf b o n c k : Nat} {i : Ins} {f : Fc} {j : Nat} {W W' : World} {S : Nat → Prop} (h : HdSt bp bk bf b o n c k i f j W) (hm : Mod S W W') (hS : ¬ S bp ∧ ¬ S bk ∧ ¬ S bf ∧ ¬ S b) : HdSt bp bk bf b o n c k i f j W' :=
  ⟨⟨hm.heap h.1.1 hS.1, hm.heap h.1.2.1 hS.2.1, hm.heap h.1.2.2 hS.2.2.1⟩, h.2.mod hm hS.2.2.2⟩
/-- What a round begins with. -/
def FhAs (F : Nat → Int × Fc → Act) (fs : List Fc) (hl : List (Int × Fc)) (bp bk bf b o n c k : Nat) (i : Ins) (f : Fc) (w2 : World) (j : Nat) (a' : Act) (A : World) : Prop :=
  ∃ x E, hl[j]? = some x ∧ a' = F E x ∧ FcAt A E x.2 ∧ w2.heap.size ≤ E ∧ HdSt bp bk bf b o n c k i f (j + 1) A ∧ FhI fs hl w2 bf j A
theorem FhAs.put {F : Nat → Int × Fc → Act} {fs : List Fc} {hl : List (Int × Fc)} {bp bk bf b o n c k : Nat} {i : Ins} {f : Fc} {w2 : World} {j : Nat} {a' : Act} {A : World} (h : FhAs F fs hl bp bk bf b o n c k i f w2 j a' A) {l : Nat} {ob : Obj} (o' : Obj) (hl' : w2.heap.size ≤ l) (hlo : A.heap[l]? = some ob) (ho : ob.isCells = false) :
    FhAs F fs hl bp bk bf b o n c k i f w2 j a' (A.putObj l o') := by
  obtain ⟨x, E, h1, h2, h3, h4, h5, h6⟩ := h
  refine ⟨x, E, h1, h2, (mod_put_ A l o').heap h3 (fun e => ?_), h4, h5.put o' hlo ho, h6.put o' hl'⟩
  unfold FcAt at h3
  rw [e, hlo] at h3
  cases h3
  cases ho
theorem mod_trans_ {S T : Nat → Prop} {a b c : World} (h : Mod S a b) (h' : Mod T b c) (hT : ∀ q, q < a.heap.size → T q → S q) : Mod S a c :=
  ⟨h'.os.trans h.os, h'.tape.trans h.tape, h'.output.trans h.output, Nat.le_trans h.size h'.size, fun k hk hS => (h'.block k (Nat.lt_of_lt_of_le hk h.size) (fun ht => hS (hT k hk ht))).trans (h.block k hk hS)⟩
theorem mod_drew_ {S : Nat → Prop} {a b : World} (h : Mod S a b) : Mod S a b.drew := ⟨h.os, h.tape, h.output, h.size, h.block⟩
/-- A round that changes nothing. -/
theorem fh_go {fs : List Fc} {hl : List (Int × Fc)} {bp bk bf b o n c k B : Nat} {i : Ins} {f : Fc} {w2 Wc X : World} {j E : Nat} {x : Int × Fc} {o1 : Fc} {a : Act} (hE : w2.heap.size ≤ E) (hEc : ∀ ob, Wc.heap[E]? = some ob → ob.isCells = true) (hst : HdSt bp bk bf b o n c k i f (j + 1) Wc)
    (hlt : bp < w2.heap.size ∧ bk < w2.heap.size ∧ bf < w2.heap.size ∧ b < w2.heap.size) (hI : FhI fs hl w2 bf j Wc) (hx : hl[j]? = some x) (ho : fs[x.1.toNat]? = some o1) (he : fcE (nxF o1 x.2) o1 = true) (hm : Mod (fun q => q = E) Wc X) :
    stPostX w2.heap.size (fun W' => FhI fs hl w2 bf (j + 1) W' ∧ HdSt bp bk bf b o n c k i f (j + 1) W') (FhX B fs hl w2 bf) Wc .normal a X := by
  refine ⟨keepsFrom_mod_ hm (fun q ob _ h hob => by subst h; exact hEc ob hob), ⟨mod_trans_ hI.1 hm (fun q hq e => by omega), ?_⟩, hst.mod hm (by omega)⟩
  intro y hy o' ho'
  rw [List.take_add_one, hx] at hy
  rcases List.mem_append.1 hy with hy | hy
  · exact hI.2 y hy o' ho'
  · have e : y = x := by simpa using hy
    subst e
    rw [ho] at ho'
    injection ho' with ho'
    subst ho'
    exact he
/-- A round that changes a fact. -/
theorem fh_out {fs : List Fc} {hl : List (Int × Fc)} {R : World → Prop} {bf B : Nat} {w2 Wc X : World} {j E : Nat} {x : Int × Fc} {o1 : Fc} {a : Act} (hE : w2.heap.size ≤ E) (hEc : ∀ ob, Wc.heap[E]? = some ob → ob.isCells = true) (hB : B < w2.heap.size)
    (hI : FhI fs hl w2 bf j Wc) (hx : hl[j]? = some x) (ho : fs[x.1.toNat]? = some o1) (he : fcE (nxF o1 x.2) o1 = false) (hm : Mod (fun q => q = E) Wc X) (hF : FsAt X B fs) :
    stPostX w2.heap.size R (FhX B fs hl w2 bf) Wc (.exit 3) a (X.setRow B (fcsL (fs.set x.1.toNat (nxF o1 x.2))).toArray) := by
  have hms := setRow_mod X B (fcsL (fs.set x.1.toNat (nxF o1 x.2))).toArray
  have hmt : Mod (fun q => q = E ∨ q = B) Wc (X.setRow B (fcsL (fs.set x.1.toNat (nxF o1 x.2))).toArray) := (hm.mono (fun _ _ h => .inl h)).trans (hms.mono (fun _ _ h => .inr h))
  refine ⟨keepsFrom_mod_ hmt (fun q ob hq h hob => ?_), rfl, mod_trans_ (hI.1.mono (fun _ _ h => .inr h)) hmt (fun q hq e => ?_), j, x, o1, ⟨hx, hI.2⟩, ho, he, hF.setRow _⟩
  · rcases h with h | h
    · subst h; exact hEc ob hob
    · omega
  · rcases e with e | e
    · omega
    · exact .inl e
set_option maxHeartbeats 4000000 in
theorem facts_any (a : Option Addr) (n c : Nat) (p : List Ins) (W : World) (h : PrgAt W a n p) (ho : PrgOk p) (hcp : cpE p = 0) :
    Calls Tryz.prog 377 #[.slice a n c] W (FctP p n W) := by
  obtain ⟨⟨hn0, hn1⟩, hright, hlast⟩ := cp_right hcp
  have hpl : p.length = n := h.1
  rw [hpl] at hn0 hn1
  have HP := Lib.hid h
  have HO := Lib.hid ho
  have HR := Lib.hid hright
  have HPL := Lib.hid hpl
  obtain ⟨i0, hi, hz0, hz1, hz2⟩ := info_parts infoFact
  have hmk : ∀ w : World, (Instr.makeSlice 535 (.int .i64 (n : Int)) (.int .i64 (n : Int))).run Tryz.prog w = .ok (.slice (some ⟨w.heap.size, 0, none⟩) n n) (w.alloc (.cells (fcsL (List.replicate n fcZ)).toArray 541)) := by
    intro w
    have := run_make (P := Tryz.prog) w 535 541 i0 _ Tryz.underlying535 hi hz0 .i64 .i64 n n (by omega) (Int.le_refl _) (by rw [hz2]; omega) (by omega)
    rw [this, hz1, ← made_fcs]
    rfl
  have HCP := Lib.hid hcp
  clear h ho hcp hright hlast hpl hi hz0 hz1 hz2
  have hnI : (n : Int) ≤ 256 := by omega
  have hnJ : (1 : Int) ≤ (n : Int) := by omega
  refine (callsIn_wide (n := 8)).1 ?_
  refine callsIn_of_wp_marks Tryz.func377 rfl trivial ?_ rfl
  simp only [Tryz.ntmps377, List.size_toArray, List.length_cons, List.length_nil, Nat.reduceAdd, Nat.reduceSub, Array.replicate_succ, Array.replicate_zero, List.push_toArray, List.append_toArray, List.nil_append, List.cons_append]
  refine wpIn_wide.2 ?_
  go_wp2_with fail
  refine wp_scope_straight ?_
  go_upto_region 2 with fail
  obtain ⟨h1, h2, hs, hb⟩ := two_blocks W (.cells (fcsL (List.replicate n fcZ)).toArray 541) (.cells #[.slice (some ⟨W.heap.size, 0, none⟩) n n] 535)
  have hrep : List.replicate n fcZ = fcZ :: List.replicate (n - 1) fcZ := by
    rw [show n = (n - 1) + 1 by omega, List.replicate_succ]
    simp
  have HF2 : Hid (FsAt ((W.alloc (.cells (fcsL (List.replicate n fcZ)).toArray 541)).alloc (.cells #[.slice (some ⟨W.heap.size, 0, none⟩) n n] 535)) W.heap.size (fcZ :: List.replicate (n - 1) fcZ)) := by rw [← hrep]; exact h1
  have HX2 : Hid (((W.alloc (.cells (fcsL (List.replicate n fcZ)).toArray 541)).alloc (.cells #[.slice (some ⟨W.heap.size, 0, none⟩) n n] 535)).heap[W.heap.size + 1]? = some (.cells #[.slice (some ⟨W.heap.size, 0, none⟩) n n] 535)) := h2
  have HB2 := Lib.hid hb
  have HS2 := Lib.hid hs
  clear h1 h2 hb hs hrep hmk
  generalize (W.alloc (.cells (fcsL (List.replicate n fcZ)).toArray 541)).alloc (.cells #[.slice (some ⟨W.heap.size, 0, none⟩) n n] 535) = W2 at *
  have c0 := (HF2.out.cell (k := 0) rfl (j := 0) (by omega))
  have f0 := HF2.out.frozen 0
  have x0 := cell_of_heap_ HX2.out
  simp only [Nat.zero_mul, Nat.zero_add] at c0
  have c0' : W2.cell? ⟨W.heap.size, 0, none⟩ = some (.bool false) := c0
  clear c0
  go_wp2_with fail
  have hF3 := HF2.out.setIs0 true
  have hm3 : Mod (fun g => g = W.heap.size) W2 (W2.setCell ⟨W.heap.size, 0, none⟩ (.bool true)) := mod_set_ _ _ _ _
  have HX3 : Hid ((W2.setCell ⟨W.heap.size, 0, none⟩ (.bool true)).heap[W.heap.size + 1]? = some (.cells #[.slice (some ⟨W.heap.size, 0, none⟩) n n] 535)) := hm3.heap HX2.out (by omega)
  have HB3 : Hid (Below W.heap.size W (W2.setCell ⟨W.heap.size, 0, none⟩ (.bool true))) := HB2.out.trans (hm3.below HB2.out.size (fun q hq e => by omega))
  have HF3 : Hid (FsAt (W2.setCell ⟨W.heap.size, 0, none⟩ (.bool true)) W.heap.size (⟨true, fun q => if 3 ≤ q ∧ q < 3 then (true, 0) else kn0⟩ :: List.replicate (n - 1) fcZ)) := by
    have e : (fun q : Nat => if 3 ≤ q ∧ q < 3 then ((true, 0) : Kn) else kn0) = fun _ => kn0 := by funext q; rw [if_neg (by omega)]
    rw [e]
    exact hF3
  clear hF3 hm3 HX2 HB2 HF2 HS2 c0' f0 x0
  generalize W2.setCell ⟨W.heap.size, 0, none⟩ (.bool true) = W3 at *
  go_loopw [4] (fun i wr => ∃ r : Nat, 3 ≤ r ∧ r ≤ 8 ∧ i = .int .i64 r ∧ Hid (FsAt wr W.heap.size (⟨true, fun q => if 3 ≤ q ∧ q < r then (true, 0) else kn0⟩ :: List.replicate (n - 1) fcZ)) ∧ Hid (wr.heap[W.heap.size + 1]? = some (.cells #[.slice (some ⟨W.heap.size, 0, none⟩) n n] 535)) ∧ Hid (Below W.heap.size W wr)) (fun i _ => 8 - (intOf i).toNat)
  case atStart => exact ⟨3, by omega, by omega, rfl, HF3, HX3, HB3⟩
  case round =>
    clear HF3 HX3 HB3
    obtain ⟨r, hr3, hr8, rfl, HF, HX, HB⟩ := hrel
    have x0 := cell_of_heap_ HX.out
    by_cases hlt : r < 8
    · have hltI : (r : Int) < 8 := by omega
      have c0 := HF.out.cell (k := 0) rfl (j := 1 + r * 2) (by omega)
      have f0 := HF.out.frozen (1 + r * 2)
      rw [Nat.zero_mul, Nat.zero_add] at c0
      have c1 : ∃ v, wr.cell? ⟨W.heap.size, 1 + r * 2, none⟩ = some v := ⟨_, c0.trans (List.getElem?_eq_getElem (by rw [fcL_len]; omega))⟩
      obtain ⟨v, c1⟩ := c1
      clear c0
      go_wp2_with fail
      have hF4 := HF.out.setReg0 hlt true
      have hm4 : Mod (fun g => g = W.heap.size) wr (wr.setCell ⟨W.heap.size, 1 + r * 2, none⟩ (.bool true)) := mod_set_ _ _ _ _
      refine ⟨⟨r + 1, by omega, by omega, by simp, ?_, hm4.heap HX.out (by omega), HB.out.trans (hm4.below HB.out.size (fun q hq e => by omega))⟩, by simp [intOf]; omega⟩
      have e : (fun q : Nat => if 3 ≤ q ∧ q < r + 1 then ((true, 0) : Kn) else kn0) = setK (fun q => if 3 ≤ q ∧ q < r then (true, 0) else kn0) r (true, (if 3 ≤ r ∧ r < r then ((true, 0) : Kn) else kn0).2) := by
        funext q
        unfold setK
        by_cases hq : q = r
        · subst hq
          rw [if_pos rfl, if_pos (by omega), if_neg (by omega)]
          rfl
        · rw [if_neg hq]
          dsimp only
          by_cases h3 : 3 ≤ q ∧ q < r
          · rw [if_pos h3, if_pos (by omega)]
          · rw [if_neg h3, if_neg (by omega)]
      rw [e]
      exact hF4
    · obtain rfl : r = 8 := by omega
      go_wp2_with fail
      refine wp_label ?_
      go_wp2_with fail
      have HO0 : Hid (FtO p n W (hgtL (fcs0 n)) [] wr) := by
        refine ⟨fcs0 n, rfl, ?_, ?_, .refl _, HX.out, HB.out, Marks.nil _ _⟩
        · unfold fcs0; rw [List.length_set, List.length_replicate]
        · have e : fcs0 n = ⟨true, fun q => if 3 ≤ q ∧ q < 8 then (true, 0) else kn0⟩ :: List.replicate (n - 1) fcZ := by
            unfold fcs0
            rw [show n = (n - 1) + 1 by omega, List.replicate_succ, List.set_cons_zero]
            rfl
          rw [e]
          exact HF.out
      clear HF HX HB x0 hr3 hr8 hlt
      rw [show (((8 : Nat)) : Int) = 8 from rfl]
      refine wp_loop_ghost_k (fun g A w' => ∃ (v5 v24 v25 v26 v27 v28 v29 v30 v31 v32 v33 v34 v35 v36 v37 v38 v39 v40 v41 v65 : Value) (ds : List Deferred), A = { tmps := List.toArray (.slice a n c :: undef :: .slice none 0 0 :: .pointer (some ⟨W.heap.size + 1, 0, none⟩) :: .int .i64 8 :: v5 :: undef :: undef :: .slice a n c :: .int .i64 (n : Int) :: .slice (some ⟨W.heap.size, 0, none⟩) n n :: .slice (some ⟨W.heap.size, 0, none⟩) n n :: .pointer (some ⟨W.heap.size, 0, none⟩) :: .pointer (some ⟨W.heap.size, 0, none⟩) :: .int .i64 8 :: .bool false :: u16 :: u17 :: u18 :: u19 :: u20 :: u21 :: u22 :: u23 :: v24 :: v25 :: v26 :: v27 :: v28 :: v29 :: v30 :: v31 :: v32 :: v33 :: v34 :: v35 :: v36 :: v37 :: v38 :: v39 :: v40 :: v41 :: undef :: undef :: undef :: undef :: undef :: undef :: undef :: undef :: undef :: undef :: undef :: undef :: undef :: undef :: undef :: undef :: undef :: undef :: undef :: undef :: undef :: undef :: undef :: v65 :: undef :: []), defers := ds } ∧ Hid (FtO p n W g ds w')) (hgtL (fcs0 n)) ⟨_, _, _, _, _, _, _, _, _, _, _, _, _, _, _, _, _, _, _, _, _, rfl, HO0⟩ ?_
      clear HO0
      rintro g A w0 ⟨v5, v24, v25, v26, v27, v28, v29, v30, v31, v32, v33, v34, v35, v36, v37, v38, v39, v40, v41, v65, ds, rfl, ⟨fs, hg, hlen, hF, hst, hX, hB, hM⟩⟩ J1 K1 hJ1 hK1
      have HG := Lib.hid hg
      have HLEN := Lib.hid hlen
      have HST := Lib.hid hst
      have HI0 : Hid (FtI p n W fs 0 ds w0) := ⟨hF, fun k i f hk => absurd hk (Nat.not_lt_zero _), hX, hB, hM⟩
      clear hg hlen hF hst hX hB hM
      go_wp2_with fail
      refine wp_loop_ghost_k (fun g2 A w' => ∃ (v5 v27 v28 v29 v30 v31 v32 v33 v34 v35 v36 v37 v38 v39 v40 v41 v65 : Value) (ds : List Deferred) (k : Nat) (z : Int), (k ≤ n ∧ g2 = n - k ∧ z = (k : Int)) ∧ A = { tmps := List.toArray (.slice a n c :: undef :: .slice none 0 0 :: .pointer (some ⟨W.heap.size + 1, 0, none⟩) :: .int .i64 8 :: v5 :: undef :: undef :: .slice a n c :: .int .i64 (n : Int) :: .slice (some ⟨W.heap.size, 0, none⟩) n n :: .slice (some ⟨W.heap.size, 0, none⟩) n n :: .pointer (some ⟨W.heap.size, 0, none⟩) :: .pointer (some ⟨W.heap.size, 0, none⟩) :: .int .i64 8 :: .bool false :: u16 :: u17 :: u18 :: u19 :: u20 :: u21 :: u22 :: u23 :: .slice a n c :: .int .i64 (n : Int) :: .int .i64 z :: v27 :: v28 :: v29 :: v30 :: v31 :: v32 :: v33 :: v34 :: v35 :: v36 :: v37 :: v38 :: v39 :: v40 :: v41 :: undef :: undef :: undef :: undef :: undef :: undef :: undef :: undef :: undef :: undef :: undef :: undef :: undef :: undef :: undef :: undef :: undef :: undef :: undef :: undef :: undef :: undef :: undef :: v65 :: undef :: []), defers := ds } ∧ Hid (FtI p n W fs k ds w')) n ⟨_, _, _, _, _, _, _, _, _, _, _, _, _, _, _, _, _, ds, 0, 0, ⟨by omega, by omega, rfl⟩, rfl, HI0⟩ ?_
      clear HI0
      rintro g2 A w1 ⟨x5, x27, x28, x29, x30, x31, x32, x33, x34, x35, x36, x37, x38, x39, x40, x41, x65, es, k, z, ⟨hk, rfl, rfl⟩, rfl, ⟨hF, hQ, hX, hB, hM⟩⟩ J2 K2 hJ2 hK2
      have HF := Lib.hid hF
      have HQ := Lib.hid hQ
      have HX := Lib.hid hX
      have HB := Lib.hid hB
      have HM := Lib.hid hM
      have x0 := cell_of_heap_ hX
      clear hF hQ hX hB hM
      by_cases hlt : k < n
      · have hltI : (k : Int) < n := by omega
        have hkf : k < fs.length := by have := HLEN.out; omega
        obtain ⟨f, hf⟩ : ∃ f, fs[k]? = some f := ⟨fs[k], List.getElem?_eq_getElem hkf⟩
        have c0 := HF.out.cell hf (j := 0) (by omega)
        have c1 : w1.cell? ⟨W.heap.size, k * 17, none⟩ = some (.bool f.is) := c0
        have HFK := Lib.hid hf
        have hld := ld_fs HF.out hf
        clear c0 hf hkf
        cases hr : f.is with
        | false =>
          rw [hr] at c1
          have HR0 := Lib.hid hr
          clear hr hld
          go_wp2_with fail
          refine Handed.intro (n - (k + 1)) (by omega) (hJ2 _ _ _ ⟨_, _, _, _, _, _, _, _, _, _, _, _, _, _, _, _, _, es, k + 1, (k : Int) + 1, ⟨by omega, rfl, by omega⟩, rfl, HF.out, ?_, HX.out, HB.out, HM.out⟩)
          intro k' i' f' hk' hi' hf' hr'
          by_cases he : k' = k
          · subst he
            have e := HFK.out.symm.trans hf'
            injection e with e
            subst e
            have := HR0.out
            rw [hr'] at this
            cases this
          · exact HQ.out k' i' f' (by omega) hi' hf' hr'
        | true =>
          rw [hr] at c1
          have HR0 := Lib.hid hr
          clear hr
          have hkp : k < p.length := by have := HPL.out; omega
          obtain ⟨i, hi⟩ : ∃ i, p[k]? = some i := ⟨p[k], List.getElem?_eq_getElem hkp⟩
          have HI := Lib.hid hi
          have HIO : Hid (InsOk i) := HO.out i (List.mem_of_getElem? hi)
          obtain ⟨b, o, hab, hin⟩ := HP.out.2 k i hi
          subst hab
          have hbl : b < W.heap.size := World.block_lt_of_cell? W _ hin.1
          have HIN := Lib.hid hin
          have HBL := Lib.hid hbl
          have HHB := Lib.hid (handL_bd (f := f) HCP.out hi)
          have HO1 := Lib.hid (HR.out k i hi).1
          clear hi hin hbl hkp
          go_wp2_with fail
          refine (hands_any _ n c k f _).mono ?_
          rintro e w2 ⟨bp, bk, bf, rfl, hHd, ⟨s1, s2, s3⟩, ⟨l1, l2, l3⟩, hne1, hne2, hb2⟩
          have hm2 : Mod (fun _ => False) w1 w2 := Mod.of_same hb2
          have HF2 : Hid (FsAt w2 W.heap.size fs) := hm2.heap HF.out (fun h => h)
          have HX2 : Hid (w2.heap[W.heap.size + 1]? = some (.cells #[.slice (some ⟨W.heap.size, 0, none⟩) n n] 535)) := hm2.heap HX.out (fun h => h)
          have HB2 : Hid (Below W.heap.size W w2) := HB.out.trans (hb2.mono HB.out.size)
          have HM2 : Hid (Marks W.heap.size es w2) := HM.out.mod hm2 (fun _ _ _ h => h)
          have HHD := Lib.hid hHd
          have hxl : W.heap.size + 1 < w1.heap.size := (Array.getElem?_eq_some_iff.1 HX.out).1
          have HLT : Hid (W.heap.size + 1 < bp ∧ W.heap.size + 1 < bk ∧ W.heap.size + 1 < bf ∧ (bf < w2.heap.size ∧ bp < w2.heap.size ∧ bk < w2.heap.size) ∧ W.heap.size + 1 < w2.heap.size ∧ b < W.heap.size ∧ ¬ bp = bf ∧ ¬ bk = bf) := ⟨by omega, by omega, by omega, ⟨l3, l1, l2⟩, by omega, HBL.out, hne1, hne2⟩
          have HIN2 : Hid (InsIn w2 b (o + k * 5) i) := HIN.out.mod (Mod.of_same (S := fun _ => False) HB2.out) (fun h => h)
          clear hm2 hb2 hHd s1 s2 s3 l1 l2 l3 hne1 hne2 hxl x0 c1 hld HF HX HB HM HIN HBL
          go_wp2_with fail
          refine (wpIn_wide (n := 8)).1 ?_
          refine wpIn_rangeFunc_ste rfl (by omega) (gf := 431) (lb := #[.pointer (some ⟨bp, 0, none⟩), .pointer (some ⟨bk, 0, none⟩), .pointer (some ⟨bf, 0, none⟩)]) rfl trivial (enters_of Tryz.func431 (by kernel_rfl) rfl) (fun _ => rfl)
            (hands1_fe 7 (by omega) bp bk bf b o n c k i f HIO.out HO1.out hlt hn1 ⟨HLT.out.2.2.2.2.2.2.1, HLT.out.2.2.2.2.2.2.2, by have := HLT.out; omega⟩)
            (fun q hq => by have := HLT.out; omega)
            (fun A' hA => HdSt.below HHD.out HIN2.out hA)
            (fun j A' l o1 o' hl hlo ho hS => hS.put o' hlo ho)
            (FhI fs (handL i k f) w2 bf)
            (fun j A' A'' hI' hm => hI'.mod hm)
            (fun j A' l o1 o' hl hlo ho hI' => hI'.put o' hl)
            (FhX W.heap.size fs (handL i k f) w2 bf)
            (fun c' A' A'' hI' hm => hI'.mod (by have := HLT.out; omega) hm)
            (fun c' A' l o1 o' hl hlo ho hI' => hI'.put o' hl hlo ho)
            ⟨Mod.refl _ _, fun x hx => by simp at hx⟩
            (FhAs (fun E x => { tmps := List.toArray (.slice (some ⟨b, o, none⟩) n c :: undef :: .slice none 0 0 :: .pointer (some ⟨W.heap.size + 1, 0, none⟩) :: .int .i64 8 :: .int .i64 (k : Int) :: .int .i64 x.1 :: .pointer (some ⟨E, 0, none⟩) :: .slice (some ⟨b, o, none⟩) n c :: .int .i64 (n : Int) :: .slice (some ⟨W.heap.size, 0, none⟩) n n :: .slice (some ⟨W.heap.size, 0, none⟩) n n :: .pointer (some ⟨W.heap.size, 0, none⟩) :: .pointer (some ⟨W.heap.size, 0, none⟩) :: .int .i64 8 :: .bool false :: u16 :: u17 :: u18 :: u19 :: u20 :: u21 :: u22 :: u23 :: .slice (some ⟨b, o, none⟩) n c :: .int .i64 (n : Int) :: .int .i64 (k : Int) :: .bool true :: .int .i64 (k : Int) :: .slice (some ⟨W.heap.size, 0, none⟩) n n :: .int .i64 (k : Int) :: .pointer (some ⟨W.heap.size, k * 17, none⟩) :: .pointer (some ⟨W.heap.size, k * 17, none⟩) :: .bool true :: .bool false :: .slice (some ⟨b, o, none⟩) n c :: .int .i64 (k : Int) :: .slice (some ⟨W.heap.size, 0, none⟩) n n :: .int .i64 (k : Int) :: .pointer (some ⟨W.heap.size, k * 17, none⟩) :: fcV f :: .func (.func 431) #[] #[.pointer (some ⟨bp, 0, none⟩), .pointer (some ⟨bk, 0, none⟩), .pointer (some ⟨bf, 0, none⟩)] :: .int .i64 x.1 :: fcV x.2 :: undef :: undef :: undef :: undef :: undef :: undef :: undef :: undef :: undef :: undef :: undef :: undef :: undef :: undef :: undef :: undef :: undef :: undef :: undef :: undef :: undef :: x65 :: undef :: []), defers := [] }) fs (handL i k f) bp bk bf b o n c k i f w2)
            (fun j a' A' l o1 o' hl hlo ho hA => hA.put o' hl hlo ho)
            ?assign ?body ?done ?stop
          case assign =>
            intro l j x W0 Wc K hk hsz hI' hm0 hY hK
            obtain ⟨hx, hst⟩ := hY
            have hma : Mod (fun _ => False) Wc (Wc.alloc (.cells (fcL x.2).toArray 541)) := (Mod.refl _ _).alloc _
            have has : FhAs (fun E x => { tmps := List.toArray (.slice (some ⟨b, o, none⟩) n c :: undef :: .slice none 0 0 :: .pointer (some ⟨W.heap.size + 1, 0, none⟩) :: .int .i64 8 :: .int .i64 (k : Int) :: .int .i64 x.1 :: .pointer (some ⟨E, 0, none⟩) :: .slice (some ⟨b, o, none⟩) n c :: .int .i64 (n : Int) :: .slice (some ⟨W.heap.size, 0, none⟩) n n :: .slice (some ⟨W.heap.size, 0, none⟩) n n :: .pointer (some ⟨W.heap.size, 0, none⟩) :: .pointer (some ⟨W.heap.size, 0, none⟩) :: .int .i64 8 :: .bool false :: u16 :: u17 :: u18 :: u19 :: u20 :: u21 :: u22 :: u23 :: .slice (some ⟨b, o, none⟩) n c :: .int .i64 (n : Int) :: .int .i64 (k : Int) :: .bool true :: .int .i64 (k : Int) :: .slice (some ⟨W.heap.size, 0, none⟩) n n :: .int .i64 (k : Int) :: .pointer (some ⟨W.heap.size, k * 17, none⟩) :: .pointer (some ⟨W.heap.size, k * 17, none⟩) :: .bool true :: .bool false :: .slice (some ⟨b, o, none⟩) n c :: .int .i64 (k : Int) :: .slice (some ⟨W.heap.size, 0, none⟩) n n :: .int .i64 (k : Int) :: .pointer (some ⟨W.heap.size, k * 17, none⟩) :: fcV f :: .func (.func 431) #[] #[.pointer (some ⟨bp, 0, none⟩), .pointer (some ⟨bk, 0, none⟩), .pointer (some ⟨bf, 0, none⟩)] :: .int .i64 x.1 :: fcV x.2 :: undef :: undef :: undef :: undef :: undef :: undef :: undef :: undef :: undef :: undef :: undef :: undef :: undef :: undef :: undef :: undef :: undef :: undef :: undef :: undef :: undef :: x65 :: undef :: []), defers := [] }) fs (handL i k f) bp bk bf b o n c k i f w2 j { tmps := List.toArray (.slice (some ⟨b, o, none⟩) n c :: undef :: .slice none 0 0 :: .pointer (some ⟨W.heap.size + 1, 0, none⟩) :: .int .i64 8 :: .int .i64 (k : Int) :: .int .i64 x.1 :: .pointer (some ⟨Wc.heap.size, 0, none⟩) :: .slice (some ⟨b, o, none⟩) n c :: .int .i64 (n : Int) :: .slice (some ⟨W.heap.size, 0, none⟩) n n :: .slice (some ⟨W.heap.size, 0, none⟩) n n :: .pointer (some ⟨W.heap.size, 0, none⟩) :: .pointer (some ⟨W.heap.size, 0, none⟩) :: .int .i64 8 :: .bool false :: u16 :: u17 :: u18 :: u19 :: u20 :: u21 :: u22 :: u23 :: .slice (some ⟨b, o, none⟩) n c :: .int .i64 (n : Int) :: .int .i64 (k : Int) :: .bool true :: .int .i64 (k : Int) :: .slice (some ⟨W.heap.size, 0, none⟩) n n :: .int .i64 (k : Int) :: .pointer (some ⟨W.heap.size, k * 17, none⟩) :: .pointer (some ⟨W.heap.size, k * 17, none⟩) :: .bool true :: .bool false :: .slice (some ⟨b, o, none⟩) n c :: .int .i64 (k : Int) :: .slice (some ⟨W.heap.size, 0, none⟩) n n :: .int .i64 (k : Int) :: .pointer (some ⟨W.heap.size, k * 17, none⟩) :: fcV f :: .func (.func 431) #[] #[.pointer (some ⟨bp, 0, none⟩), .pointer (some ⟨bk, 0, none⟩), .pointer (some ⟨bf, 0, none⟩)] :: .int .i64 x.1 :: fcV x.2 :: undef :: undef :: undef :: undef :: undef :: undef :: undef :: undef :: undef :: undef :: undef :: undef :: undef :: undef :: undef :: undef :: undef :: undef :: undef :: undef :: undef :: x65 :: undef :: []), defers := [] } (Wc.alloc (.cells (fcL x.2).toArray 541)) :=
              ⟨x, Wc.heap.size, hx, rfl, World.alloc_heap_new _ _, Nat.le_trans hsz hm0.size, hst.mod hma ⟨fun h => h, fun h => h, fun h => h, fun h => h⟩, (hI'.mod hm0).mod (hma.mono (fun _ _ h => h.elim))⟩
            have HAS := Lib.hid has
            have HKF := Lib.hid (keepsFrom_mod_ (b := w2.heap.size) hma (fun q o1 _ h => h.elim))
            clear has hma hx hst hI' hm0
            gi_wp2
            exact hK _ _ HKF.out HAS.out
          case body =>
            intro l j a' Wc hj hA
            obtain ⟨⟨tz, g⟩, E, hx, rfl, hE, hEl, hst, hI'⟩ := hA
            have hmem := List.mem_of_getElem? hx
            obtain ⟨hb0, hb1⟩ := HHB.out _ hmem
            simp only at hb0 hb1
            obtain ⟨t, ht⟩ : ∃ t : Nat, tz = (t : Int) := ⟨tz.toNat, by omega⟩
            subst ht
            have htn : t < n := by have := HPL.out; omega
            have htI : (t : Int) < n := by omega
            have HFc : Hid (FsAt Wc W.heap.size fs) := hI'.1.heap HF2.out (by have := HLT.out; omega)
            have HXc : Hid (Wc.heap[W.heap.size + 1]? = some (.cells #[.slice (some ⟨W.heap.size, 0, none⟩) n n] 535)) := hI'.1.heap HX2.out (by have := HLT.out; omega)
            have htf : t < fs.length := by have := HLEN.out; omega
            obtain ⟨o1, ho1⟩ : ∃ o1, fs[t]? = some o1 := ⟨fs[t], List.getElem?_eq_getElem htf⟩
            have c0 : Wc.cell? ⟨W.heap.size, t * 17, none⟩ = some (.bool o1.is) := HFc.out.cell ho1 (j := 0) (by omega)
            have x0 := cell_of_heap_ HXc.out
            have HE := Lib.hid hE
            have HEL := Lib.hid hEl
            have HSt := Lib.hid hst
            have HIJ := Lib.hid hI'
            have HXJ := Lib.hid hx
            have HMEM := Lib.hid hmem
            have HO1 := Lib.hid ho1
            have HEc : Hid (∀ ob, Wc.heap[E]? = some ob → ob.isCells = true) := fun ob h => by have h1 := HE.out; unfold FcAt at h1; rw [h1] at h; cases h; rfl
            clear hE hEl hst hI' hx hmem ho1 htf hb0 hb1
            cases hr : o1.is with
            | true =>
              rw [hr] at c0
              have HRR := Lib.hid hr
              clear hr
              have hl1 := ld_fs (W := Wc.drew) HFc.out HO1.out
              have hl2 := ld_fc (W := Wc.drew) HE.out
              gi_wp2
              rename_i K9 hK9
              have HK : Hid (∀ X : World, FcAt X E (meetV o1 g) → Mod (fun q => q = E) Wc X → K9 { tmps := List.toArray (.slice (some ⟨b, o, none⟩) n c :: undef :: .slice none 0 0 :: .pointer (some ⟨W.heap.size + 1, 0, none⟩) :: .int .i64 8 :: .int .i64 (k : Int) :: .int .i64 (t : Int) :: .pointer (some ⟨E, 0, none⟩) :: .slice (some ⟨b, o, none⟩) n c :: .int .i64 (n : Int) :: .slice (some ⟨W.heap.size, 0, none⟩) n n :: .slice (some ⟨W.heap.size, 0, none⟩) n n :: .pointer (some ⟨W.heap.size, 0, none⟩) :: .pointer (some ⟨W.heap.size, 0, none⟩) :: .int .i64 8 :: .bool false :: u16 :: u17 :: u18 :: u19 :: u20 :: u21 :: u22 :: u23 :: .slice (some ⟨b, o, none⟩) n c :: .int .i64 (n : Int) :: .int .i64 (k : Int) :: .bool true :: .int .i64 (k : Int) :: .slice (some ⟨W.heap.size, 0, none⟩) n n :: .int .i64 (k : Int) :: .pointer (some ⟨W.heap.size, k * 17, none⟩) :: .pointer (some ⟨W.heap.size, k * 17, none⟩) :: .bool true :: .bool false :: .slice (some ⟨b, o, none⟩) n c :: .int .i64 (k : Int) :: .slice (some ⟨W.heap.size, 0, none⟩) n n :: .int .i64 (k : Int) :: .pointer (some ⟨W.heap.size, k * 17, none⟩) :: fcV f :: .func (.func 431) #[] #[.pointer (some ⟨bp, 0, none⟩), .pointer (some ⟨bk, 0, none⟩), .pointer (some ⟨bf, 0, none⟩)] :: .int .i64 (t : Int) :: fcV g :: .slice (some ⟨W.heap.size, 0, none⟩) n n :: .int .i64 (t : Int) :: .pointer (some ⟨W.heap.size, t * 17, none⟩) :: .pointer (some ⟨W.heap.size, t * 17, none⟩) :: .bool true :: .slice (some ⟨W.heap.size, 0, none⟩) n n :: .int .i64 (t : Int) :: .pointer (some ⟨W.heap.size, t * 17, none⟩) :: fcV o1 :: fcV g :: fcV (meetV o1 g) :: undef :: undef :: undef :: undef :: undef :: undef :: undef :: undef :: undef :: undef :: x65 :: undef :: []), defers := [] } X) := by
                intro X hEX hMX
                have HE4 := Lib.hid hEX
                have HM4 := Lib.hid hMX
                have HNX : Hid (nxF o1 g = meetV o1 g) := by unfold Hid nxF; rw [if_pos HRR.out]
                clear hEX hMX hl1 hl2 c0 x0
                generalize meetV o1 g = nx at *
                have HF4 : Hid (FsAt X W.heap.size fs) := HM4.out.heap HFc.out (by have := HLT.out; have := HEL.out; omega)
                have HX4 : Hid (X.heap[W.heap.size + 1]? = some (.cells #[.slice (some ⟨W.heap.size, 0, none⟩) n n] 535)) := HM4.out.heap HXc.out (by have := HLT.out; have := HEL.out; omega)
                have hl3 := ld_fc (W := X.drew) HE4.out
                have hl4 := ld_fs (W := X.drew) HF4.out HO1.out
                have hne := fun w => neq_fc nx o1 w
                have x4 := cell_of_heap_ HX4.out
                by_cases he : fcE nx o1 = true
                · have HEQ : Hid (fcE (nxF o1 g) o1 = true) := by rw [HNX.out]; exact he
                  rw [he] at hne
                  clear he
                  gi_wp2
                  gi_region
                  all_goals gi_wp2
                  all_goals exact fh_go HEL.out HEc.out HSt.out (by have := HLT.out; omega) HIJ.out HXJ.out HO1.out HEQ.out (mod_drew_ HM4.out)
                · have he' : fcE nx o1 = false := by simpa using he
                  have HEQ : Hid (fcE (nxF o1 g) o1 = false) := by rw [HNX.out]; exact he'
                  rw [he'] at hne
                  clear he he'
                  have hst2 := st_fs (W := X.drew) HF4.out (k := t) (by have := HLEN.out; omega) nx
                  gi_wp2
                  gi_region
                  all_goals gi_wp2
                  all_goals (have hfo := fh_out (R := fun W' => FhI fs (handL i k f) w2 bf (j + 1) W' ∧ HdSt bp bk bf b o n c k i f (j + 1) W') (a := { tmps := #[], defers := [] }) HEL.out HEc.out (by have := HLT.out; omega) HIJ.out HXJ.out HO1.out HEQ.out (mod_drew_ HM4.out) HF4.out; rw [HNX.out] at hfo; exact hfo)
              gi_region_with (refine ⟨trivial, ?_⟩; refine (CallsIn.inRound l (callsIn_wide.2 (meet_any _ _ _))).mono ?_; rintro e w3 ⟨rfl, hb3⟩; have hm3 : Mod (fun _ => False) Wc.drew w3 := Mod.of_same hb3; have HE3 : Hid (FcAt w3 E g) := hm3.heap HE.out (fun h => h); have hst := st_fc HE3.out (meetV o1 g); have HM3 := Lib.hid hm3; clear hb3 hm3)
              all_goals exact HK.out _ (HE3.out.setRow _) ((((fun (h : Mod (fun _ => False) Wc.drew w3) => (⟨h.os, h.tape, h.output, h.size, h.block⟩ : Mod (fun _ => False) Wc w3)) HM3.out).mono (fun _ _ h => h.elim)).trans (setRow_mod w3 E _))
            | false =>
              rw [hr] at c0
              have HRR := Lib.hid hr
              clear hr
              have HM4 : Hid (Mod (fun q => q = E) Wc Wc) := Mod.refl _ _
              have HNX : Hid (nxF o1 g = g) := by unfold Hid nxF; rw [if_neg (by rw [HRR.out]; decide)]
              have hl3 := ld_fc (W := Wc.drew) HE.out
              have hl4 := ld_fs (W := Wc.drew) HFc.out HO1.out
              have hne := fun w => neq_fc g o1 w
              by_cases he : fcE g o1 = true
              · have HEQ : Hid (fcE (nxF o1 g) o1 = true) := by rw [HNX.out]; exact he
                rw [he] at hne
                clear he
                gi_wp2
                gi_region
                all_goals gi_wp2
                all_goals exact fh_go HEL.out HEc.out HSt.out (by have := HLT.out; omega) HIJ.out HXJ.out HO1.out HEQ.out (mod_drew_ HM4.out)
              · have he' : fcE g o1 = false := by simpa using he
                have HEQ : Hid (fcE (nxF o1 g) o1 = false) := by rw [HNX.out]; exact he'
                rw [he'] at hne
                clear he he'
                have hst2 := st_fs (W := Wc.drew) HFc.out (k := t) (by have := HLEN.out; omega) g
                gi_wp2
                gi_region
                all_goals gi_wp2
                all_goals (have hfo := fh_out (R := fun W' => FhI fs (handL i k f) w2 bf (j + 1) W' ∧ HdSt bp bk bf b o n c k i f (j + 1) W') (a := { tmps := #[], defers := [] }) HEL.out HEc.out (by have := HLT.out; omega) HIJ.out HXJ.out HO1.out HEQ.out (mod_drew_ HM4.out) HFc.out; rw [HNX.out] at hfo; exact hfo)
          case done =>
            intro D W' hD hI' hK
            obtain ⟨hmI, hq⟩ := hI'
            rw [List.take_of_length_le (Nat.le_refl _)] at hq
            have HFd : Hid (FsAt W' W.heap.size fs) := hmI.heap HF2.out (by have := HLT.out; omega)
            have HXd : Hid (W'.heap[W.heap.size + 1]? = some (.cells #[.slice (some ⟨W.heap.size, 0, none⟩) n n] 535)) := hmI.heap HX2.out (by have := HLT.out; omega)
            have HBd : Hid (Below W.heap.size W W') := HB2.out.trans (hmI.below HB2.out.size (fun q hq' e => by have := HLT.out; omega))
            have HMd : Hid (Marks W.heap.size es W') := HM2.out.mod hmI (fun D' _ h e => by have h1 := HHD.out.2.2; unfold FcAt at h1; rw [e, h1] at h; cases h)
            have HMM := Lib.hid (Marks.cons HM2.out HMd.out (by have := HB2.out.size; omega) hD hK)
            have HQQ : Hid (FcQuiet p fs (k + 1)) := by
              intro k' i' f' hk' hi' hf' hr' x hx o' ho'
              by_cases he : k' = k
              · subst he
                have e := HFK.out.symm.trans hf'
                injection e with e
                subst e
                have e2 := HI.out.symm.trans hi'
                injection e2 with e2
                subst e2
                exact hq x hx o' ho'
              · exact HQ.out k' i' f' (by omega) hi' hf' hr' x hx o' ho'
            clear hmI hq hK
            simp only [Exit.inBlock, Exit.then]
            go_wp2_with fail
            exact Handed.intro (n - (k + 1)) (by omega) (hJ2 _ _ _ ⟨_, _, _, _, _, _, _, _, _, _, _, _, _, _, _, _, _, _, k + 1, (k : Int) + 1, ⟨by omega, rfl, by omega⟩, rfl, HFd.out, HQQ.out, HXd.out, HBd.out, HMM.out⟩)
          case stop =>
            intro D c' W' hD hX' hK
            obtain ⟨rfl, hmX, j, x, o1, ⟨hx, hqj⟩, ho1, hc, hFX⟩ := hX'
            have HXd : Hid (W'.heap[W.heap.size + 1]? = some (.cells #[.slice (some ⟨W.heap.size, 0, none⟩) n n] 535)) := hmX.heap HX2.out (by have := HLT.out; omega)
            have HBd : Hid (Below W.heap.size W W') := HB2.out.trans (hmX.below HB2.out.size (fun q hq' e => by have := HLT.out; omega))
            have HMd : Hid (Marks W.heap.size es W') := HM2.out.mod hmX (fun D' _ h e => by
              rcases e with e | e
              · have h1 := HF2.out; unfold FsAt at h1; rw [e, h1] at h; cases h
              · have h1 := HHD.out.2.2; unfold FcAt at h1; rw [e, h1] at h; cases h)
            have HMM := Lib.hid (Marks.cons HM2.out HMd.out (by have := HB2.out.size; omega) hD hK)
            have HNEW : Hid (FtO p n W (hgtL (fs.set x.1.toNat (nxF o1 x.2))) ({ target := .collected D, args := #[] } :: es) W') :=
              ⟨_, rfl, by rw [List.length_set]; exact HLEN.out, hFX, (HST.out.step ⟨k, i, f, o1, j, x, HI.out, HFK.out, HR0.out, HQ.out, hx, hqj, ho1, hc, rfl⟩), HXd.out, HBd.out, HMM.out⟩
            have HLOW : Hid (hgtL (fs.set x.1.toNat (nxF o1 x.2)) < g) := by
              rw [Hid, ← HG.out]
              exact hgtL_set fs _ o1 _ ho1 (nxF_lt (by rw [handL_fact (List.mem_of_getElem? hx), hF_is]; exact HR0.out) hc)
            clear hmX hx hqj ho1 hc hFX hK
            gi_wp2
            exact Handed.intro _ HLOW.out (hJ1 _ _ _ ⟨_, _, _, _, _, _, _, _, _, _, _, _, _, _, _, _, _, _, _, _, _, rfl, HNEW.out⟩)
      · obtain rfl : k = n := by omega
        go_wp2_with fail
        rw [Exit.noGoto_ret]
        refine leaves_marks (m := W.heap.size) (Q := fun w' => FsAt w' W.heap.size fs ∧ FcQuiet p fs k ∧ Below W.heap.size W w') (fun w' D hD hw hq => ?_) (fun w' hq => ?_) HM.out ⟨HF.out, HQ.out, HB.out⟩
        · have hm := mod_put_ w' D (.deferred none)
          exact ⟨hm.heap hq.1 (fun e => by have h1 := hq.1; unfold FsAt at h1; rw [e, hw] at h1; cases h1), hq.2.1, hq.2.2.trans (hm.below hq.2.2.size (fun q hq' e => by omega))⟩
        · have hpk : p.length = k := HPL.out
          have he : fs = fctF p := fctF_eq (by rw [hpk]; exact HST.out) (by rw [hpk]; exact hq.2.1)
          exact ⟨_, results_tmp rfl _ _ _, W.heap.size, rfl, by rw [← he]; exact hq.1, Nat.le_refl _, by rw [← he]; exact HLEN.out, hq.2.2⟩
end Eng
end Go.Proofs.YtdfmgneicdpjmaaGreat
