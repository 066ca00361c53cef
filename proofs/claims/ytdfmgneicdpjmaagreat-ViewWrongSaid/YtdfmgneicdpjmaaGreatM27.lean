import Derived.Test.YtdfmgneicdpjmaaGreatM26
import Derived.Laws.CopyRow
import Derived.Deep.WholeRow
/- Loads and stores of whole structs and arrays, as one value. -/
namespace Go.Proofs.YtdfmgneicdpjmaaGreat
open Go.RowKit Go.Shelf
set_option linter.unusedVariables false
set_option linter.unusedSimpArgs false
namespace Eng
open Resp

def aggB : TypeDesc → Bool
  | .struct _ | .array _ _ => true
  | _ => false
theorem ld_at {P : Program} (W : World) (g o : Nat) (ty : TypeId) (cs : List Value) (d : TypeDesc) (hu : P.underlying ty = some d) (hd : aggB d = true) (hi : (P.info? ty).map (·.size) = some cs.length)
    (h : ∀ (j : Nat) (v : Value), cs[j]? = some v → W.cell? ⟨g, o + j, none⟩ = some v) : (Instr.loadAt ty (.pointer (some ⟨g, o, none⟩))).run P W = .ok (.agg cs.toArray) W := by
  have hl : (loadCells ⟨g, o, none⟩ cs.length).run P W = .ok cs.toArray W :=
    run_loadCells_list (P := P) W ⟨g, o, none⟩ cs (fun j v hv => by
      have hadd : (⟨g, o, none⟩ : Addr).add j = ⟨g, o + j, none⟩ := by unfold Addr.add; split <;> simp_all
      rw [hadd]
      exact h j v hv)
  simp only [Instr.loadAt, Instr.sureAddr, Sem.run_bind, Sem.run_pure, Result.andThen]
  cases hq : P.info? ty with
  | none => simp [hq] at hi
  | some i =>
    have hs : i.size = cs.length := by simpa [hq] using hi
    have hagg : (isAgg ty).run P W = .ok true W := by
      unfold isAgg
      rw [Sem.run_bind, run_underlying hu W]
      cases d <;> simp_all [aggB]
    simp [loadVar, Sem.run_bind, hagg, sizeOf, typeInfo, hq, hs, hl]
/-- A whole block. -/
theorem ld_row {P : Program} (W : World) (g : Nat) (ty t : TypeId) (cs : List Value) (fr : Nat × Nat) (d : TypeDesc) (hu : P.underlying ty = some d) (hd : aggB d = true) (hi : (P.info? ty).map (·.size) = some cs.length)
    (h : W.heap[g]? = some (.cells cs.toArray t fr)) : (Instr.loadAt ty (.pointer (some ⟨g, 0, none⟩))).run P W = .ok (.agg cs.toArray) W :=
  ld_at W g 0 ty cs d hu hd hi (fun j v hv => by simp [World.cell?, h, hv])
theorem st_at {P : Program} (W : World) (g o : Nat) (ty t : TypeId) (cs : List Value) (cur : Array Value) (hg : W.heap[g]? = some (.cells cur t (0, 0))) (hi : (P.info? ty).map (·.size) = some cs.length) (hl : o + cs.length ≤ cur.size) (h1 : ∀ v ∈ cs, v.oneCell' = true) :
    (Instr.storeAt ty (.pointer (some ⟨g, o, none⟩)) (.agg cs.toArray)).run P W = .ok () (W.setRow g (cur.toList.take o ++ cs ++ cur.toList.drop (o + cs.length)).toArray) := by
  have := run_storeCells_at (P := P) g o t cs 0 cur W hg (by omega) h1
  rw [Nat.add_zero] at this
  simp only [Instr.storeAt, Instr.sureAddr, Sem.run_bind, Sem.run_pure, Result.andThen]
  cases hq : P.info? ty with
  | none => simp [hq] at hi
  | some i =>
    have hs : i.size = cs.length := by simpa [hq] using hi
    simpa [storeVar, sizeOf, typeInfo, hq, Value.cells, hs] using this
theorem st_row {P : Program} (W : World) (g : Nat) (ty t : TypeId) (cs : List Value) (cur : Array Value) (hg : W.heap[g]? = some (.cells cur t (0, 0))) (hi : (P.info? ty).map (·.size) = some cs.length) (hl : cs.length = cur.size) (h1 : ∀ v ∈ cs, v.oneCell' = true) :
    (Instr.storeAt ty (.pointer (some ⟨g, 0, none⟩)) (.agg cs.toArray)).run P W = .ok () (W.setRow g cs.toArray) := by
  have h := st_at (P := P) W g 0 ty t cs cur hg hi (by omega) h1
  rw [h]
  have e : cur.toList.take 0 ++ cs ++ cur.toList.drop (0 + cs.length) = cs := by
    rw [List.take_zero, List.nil_append, List.drop_of_length_le (by rw [Array.length_toList]; omega), List.append_nil]
  rw [e]
theorem setRow_heap {W : World} {g : Nat} {old cs : Array Value} {t : TypeId} {fr : Nat × Nat} (h : W.heap[g]? = some (.cells old t fr)) : (W.setRow g cs).heap[g]? = some (.cells cs t fr) := by
  have hlt : g < W.heap.size := (Array.getElem?_eq_some_iff.1 h).1
  have he := (Array.getElem?_eq_some_iff.1 h).2
  show (W.heap.modify g _)[g]? = _
  rw [Array.getElem?_eq_getElem (by rw [Array.size_modify]; exact hlt), Array.getElem_modify_self, he]
theorem setRow_mod (W : World) (g : Nat) (cs : Array Value) : Mod (fun q => q = g) W (W.setRow g cs) := by
  refine ⟨rfl, rfl, rfl, ?_, fun k hk hS => ?_⟩
  · simp [World.setRow]
  · show (W.heap.modify g _)[k]? = _
    rw [Array.getElem?_modify, if_neg (fun e => hS e.symm)]
theorem st_new {P : Program} (W : World) (ty : TypeId) (zs : Array Value) (cs : List Value) (hi : (P.info? ty).map (·.size) = some cs.length) (hl : cs.length = zs.size) (h1 : ∀ v ∈ cs, v.oneCell' = true) :
    (Instr.storeAt ty (.pointer (some ⟨W.heap.size, 0, none⟩)) (.agg cs.toArray)).run P (W.alloc (.cells zs ty)) = .ok () (W.alloc (.cells cs.toArray ty)) :=
  run_storeAt_new W ty zs cs.toArray (by simpa using hi) (by simpa using hl.symm) (by rw [Array.all_eq_true_iff_forall_mem]; intro v hv; exact h1 v (by simpa using hv))
end Eng
end Go.Proofs.YtdfmgneicdpjmaaGreat

/- Facts as whole values: loads and stores. -/
namespace Go.Proofs.YtdfmgneicdpjmaaGreat
open Go.RowKit Go.Shelf
set_option linter.unusedVariables false
set_option linter.unusedSimpArgs false
set_option maxRecDepth 100000
namespace Eng
open Resp

theorem fc_cells (f : Fc) : (fcV f).cells = (fcL f).toArray := rfl
theorem fc_one (f : Fc) : ∀ v ∈ fcL f, v.oneCell' = true := by
  intro v hv
  simp only [fcL, rgL, List.mem_cons, List.not_mem_nil, or_false] at hv
  rcases hv with rfl | rfl | rfl | rfl | rfl | rfl | rfl | rfl | rfl | rfl | rfl | rfl | rfl | rfl | rfl | rfl | rfl <;> rfl
theorem ld_fc {W : World} {g : Nat} {f : Fc} (h : FcAt W g f) : (Instr.loadAt 541 (.pointer (some ⟨g, 0, none⟩))).run Tryz.prog W = .ok (fcV f) W :=
  ld_row W g _ _ (fcL f) _ _ Tryz.underlying541 rfl infoFc h
theorem ld_fs {W : World} {B : Nat} {fs : List Fc} {k : Nat} {f : Fc} (h : FsAt W B fs) (hf : fs[k]? = some f) : (Instr.loadAt 541 (.pointer (some ⟨B, k * 17, none⟩))).run Tryz.prog W = .ok (fcV f) W :=
  ld_at W B (k * 17) _ (fcL f) _ Tryz.underlying541 rfl infoFc (fun j v hv => by
    have hj : j < 17 := (List.getElem?_eq_some_iff.1 hv).1
    rw [h.cell hf hj, hv])
theorem infoRg : (Tryz.prog.info? 539).map (·.size) = some 16 := by kernel_rfl
theorem ld_rg {W : World} {g : Nat} {f : Fc} (h : FcAt W g f) : (Instr.loadAt 539 (.pointer (some ⟨g, 1, none⟩))).run Tryz.prog W = .ok (rgV f.k) W :=
  ld_at W g 1 _ (rgL f.k) _ Tryz.underlying539 rfl infoRg (fun j v hv => by
    have h' : W.heap[g]? = _ := h
    simp only [World.cell?, h', fcL]
    rw [Nat.add_comm 1 j]
    simpa using hv)
theorem ld_rg0 {W : World} {g : Nat} {k : Nat → Kn} (h : W.heap[g]? = some (.cells (rgL k).toArray 539)) : (Instr.loadAt 539 (.pointer (some ⟨g, 0, none⟩))).run Tryz.prog W = .ok (rgV k) W :=
  ld_row W g _ _ (rgL k) _ _ Tryz.underlying539 rfl infoRg h
theorem st_fc {W : World} {g : Nat} {f0 : Fc} (h : FcAt W g f0) (f : Fc) : (Instr.storeAt 541 (.pointer (some ⟨g, 0, none⟩)) (fcV f)).run Tryz.prog W = .ok () (W.setRow g (fcL f).toArray) :=
  st_row W g _ _ (fcL f) _ h infoFc (by simp [fcL_len]) (fc_one f)
theorem st_fs {W : World} {B : Nat} {fs : List Fc} (h : FsAt W B fs) {k : Nat} (hk : k < fs.length) (f : Fc) : (Instr.storeAt 541 (.pointer (some ⟨B, k * 17, none⟩)) (fcV f)).run Tryz.prog W = .ok () (W.setRow B (fcsL (fs.set k f)).toArray) := by
  have := st_at (P := Tryz.prog) W B (k * 17) 541 541 (fcL f) _ h infoFc (by rw [List.size_toArray, fcsL_len, fcL_len]; omega) (fc_one f)
  rw [show (Value.agg (fcL f).toArray) = fcV f from rfl] at this
  rw [this]
  congr 3
  rw [← fcsL_set fs k hk f]
  have e : ∀ (vs l : List Value) (o : Nat), o + vs.length ≤ l.length → setAll l o vs = l.take o ++ vs ++ l.drop (o + vs.length) := by
    intro vs
    induction vs with
    | nil => intro l o h; simp [setAll]
    | cons v vs ih =>
      intro l o h
      simp only [List.length_cons] at h
      rw [setAll, ih _ _ (by rw [List.length_set]; omega)]
      have h1 : (l.set o v).take (o + 1) = l.take o ++ [v] := by
        rw [List.take_succ_eq_append_getElem (by rw [List.length_set]; omega), List.take_set_of_le (Nat.le_refl _), List.getElem_set_self]
      have h2 : (l.set o v).drop (o + 1 + vs.length) = l.drop (o + (vs.length + 1)) := by
        rw [List.drop_set_of_lt (by omega), show o + 1 + vs.length = o + (vs.length + 1) by omega]
      rw [h1, h2, List.length_cons, List.append_assoc, List.append_assoc]
      simp
  rw [e _ _ _ (by rw [fcsL_len, fcL_len]; omega)]
theorem st_new_fc (W : World) (f : Fc) (zs : Array Value) (hz : zs.size = 17) : (Instr.storeAt 541 (.pointer (some ⟨W.heap.size, 0, none⟩)) (fcV f)).run Tryz.prog (W.alloc (.cells zs 541)) = .ok () (W.alloc (.cells (fcL f).toArray 541)) :=
  st_new W _ zs (fcL f) infoFc (by rw [hz, fcL_len]) (fc_one f)
theorem FcAt.setRow {W : World} {g : Nat} {f0 : Fc} (h : FcAt W g f0) (f : Fc) : FcAt (W.setRow g (fcL f).toArray) g f := setRow_heap h
theorem FsAt.setRow {W : World} {B : Nat} {fs : List Fc} (h : FsAt W B fs) (gs : List Fc) : FsAt (W.setRow B (fcsL gs).toArray) B gs := setRow_heap h
theorem ld_opn (t : TypeId) (p : Value) (h : ¬ t = 541) (h2 : ¬ t = 539) : Instr.loadAt t p = (do loadVar t (← Instr.sureAddr p)) := rfl
theorem st_opn (t : TypeId) (p v : Value) (h : ¬ t = 541) : Instr.storeAt t p v = (do storeVar t (← Instr.sureAddr p) v) := rfl
end Eng
end Go.Proofs.YtdfmgneicdpjmaaGreat
