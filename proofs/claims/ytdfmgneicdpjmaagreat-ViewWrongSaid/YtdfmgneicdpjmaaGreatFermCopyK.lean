import Derived.Test.YtdfmgneicdpjmaaGreatM00
import Derived.Laws.IdiomCopy
import Derived.Lib.AppendZerosOnto
import Derived.Lib.Overlaps
namespace Go.Proofs.YtdfmgneicdpjmaaGreat
open Go.RowKit Go.Shelf
set_option linter.unusedVariables false
theorem run_copy_rowK {P : Program} (k : Nat) (w : World) (dT sT ty elem : TypeId) (g o dLen dCap : Nat) (a : Addr) (sLen sCap : Nat) (cur : Array Value) (t : TypeId) (cs : List Value)
   (hu : P.underlying dT = some (.slice elem)) (hs : (P.info? elem).map (·.size) = some k)
   (hg : w.heap[g]? = some (.cells cur t (0, 0))) (hn : cs.length = Nat.min sLen dLen * k)
   (hsrc : ∀ j v, cs[j]? = some v → w.cell? (a.add j) = some v) (hfit : o + cs.length ≤ cur.size) (h1 : ∀ v ∈ cs, v.oneCell' = true) :
   (Builtin.copy_ #[dT, sT] ty #[.slice (some ⟨g, o, none⟩) dLen dCap, .slice (some a) sLen sCap]).run P w =
     .ok (goInt (Nat.min sLen dLen)) (w.setRow g (cur.toList.take o ++ cs ++ cur.toList.drop (o + cs.length)).toArray) := by
 have hl := run_loadCells_list (P := P) w a cs hsrc
 have hst := run_storeCells_at P g o t cs 0 cur w hg (by simpa using hfit) h1
 cases hq : P.info? elem with
 | none => simp [hq] at hs
 | some i =>
   have hi : i.size = k := by simpa [hq] using hs
   simp [Builtin.copy_, run_underlying hu, Builtin.lenOf, Builtin.firstCells, sizeOf, typeInfo, hq, hi, ← hn, hl, hst]
theorem step_copy_run_ {P : Program} {ops : Array Oper} {o : Oper} {a : Act} {w : World} {K : Act → World → Prop} {Q : Exit → Act → World → Prop} {E : Prop}
   (hg : o.guard = none) (d x : Operand) (dT sT : TypeId) (hop : o.op = Op.call { callee := Callee.builtin Builtin.copy, args := #[d, x], argTypes := #[dT, sT] })
   (v u : Value) (hd : a.eval d = v) (hx : a.eval x = u) {v' : Value} {w' : World} (hr : (Builtin.copy_ #[dT, sT] o.type #[v, u]).run P w = .ok v' w') (hK : K (a.put o.dst v') w') :
   if Region.wanted o (yielded ops a.tmps) = true then Oper.wp P o a w K Q else E := by
 have hw : Region.wanted o (yielded ops a.tmps) = true := by simp [Region.wanted, hg]
 rw [if_pos hw]
 unfold Oper.wp
 simp [execOp, hop, resolve, invoke, builtin, hd, hx, hr, Result.andThen]
 exact hK
theorem row_heap_ {W : World} {g : Nat} {old cs : Array Value} {t : TypeId} {fr : Nat × Nat} (h : W.heap[g]? = some (.cells old t fr)) : (W.setRow g cs).heap[g]? = some (.cells cs t fr) := Go.setRow_heap W g old cs t fr h
theorem row_mod_ (W : World) (g : Nat) (cs : Array Value) : Mod (fun q => q = g) W (W.setRow g cs) := by
 refine ⟨rfl, rfl, rfl, by simp [World.setRow], fun q hq hne => ?_⟩
 simp only [World.setRow, Array.getElem?_modify]
 rw [if_neg (fun e => hne e.symm)]
theorem shift_list {R new X : List Value} {A N k : Nat} (hA : A ≤ N) (hR : N + k ≤ R.length) (hn : new.length = k) (hX : X.length = N - A) :
   ((R.take (A + k) ++ X ++ R.drop (A + k + (N - A))).take A ++ new ++ (R.take (A + k) ++ X ++ R.drop (A + k + (N - A))).drop (A + k)).take (N + k) = R.take A ++ new ++ X := by
 have h1 : (R.take (A + k) ++ X ++ R.drop (A + k + (N - A))).take A = R.take A := by
   rw [List.append_assoc, List.take_append_of_le_length (by rw [List.length_take]; omega), List.take_take, Nat.min_eq_left (by omega)]
 have h2 : (R.take (A + k) ++ X ++ R.drop (A + k + (N - A))).drop (A + k) = X ++ R.drop (A + k + (N - A)) := by
   rw [List.append_assoc, List.drop_left' (by rw [List.length_take]; omega)]
 rw [h1, h2, ← List.append_assoc, List.take_left' (by simp only [List.length_append, List.length_take, hn, hX]; omega)]
theorem grow_list {R new X : List Value} {A N k : Nat} (hA : A ≤ N) (hR : N + k ≤ R.length) (hn : new.length = k) (hX : X.length = N - A) :
   ((R.take A ++ new ++ R.drop (A + k)).take (A + k) ++ X ++ (R.take A ++ new ++ R.drop (A + k)).drop (A + k + (N - A))).take (N + k) = R.take A ++ new ++ X := by
 have h1 : (R.take A ++ new ++ R.drop (A + k)).take (A + k) = R.take A ++ new := by
   rw [List.take_left' (by simp only [List.length_append, List.length_take, hn]; omega)]
 rw [h1, List.take_left' (by simp only [List.length_append, List.length_take, hn, hX]; omega)]
theorem owns_pos_ {W : World} {base : Nat} {e : TypeId} {size : Nat} {v : Value} {k : Nat} {xs : List Value} (h : W.ownsRow base e size v k xs) (hk : 0 < k) : ∃ g c, v = .slice (some ⟨g, 0, none⟩) k c := by
 rcases h.2 with ⟨rfl, rfl⟩ | ⟨g', cap, cur, rfl, hb, hgg, _⟩
 · exact absurd hk (Nat.lt_irrefl _)
 · exact ⟨_, _, rfl⟩
end Go.Proofs.YtdfmgneicdpjmaaGreat
