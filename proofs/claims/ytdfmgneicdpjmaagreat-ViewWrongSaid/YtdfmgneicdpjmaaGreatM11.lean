import Derived.Test.YtdfmgneicdpjmaaGreatM02
import Derived.Handy
import Derived.Test.YtdfmgneicdpjmaaGreatM01
import Derived.Deep.AppendLies
import Derived.Deep.AppendSrc
/- field.Right at whatever fields. -/
namespace Go.Proofs.YtdfmgneicdpjmaaGreat
open Go.RowKit Go.Shelf Go.BigFrame
attribute [local go_sem] Oper.semAt_some
set_option linter.unusedVariables false
set_option linter.unusedSimpArgs false
set_option maxRecDepth 100000
namespace Eng
open Resp

def rightF (fs : List F) : Bool := rightL 0 16384 fs && decide (fs.length ≤ 64)
def RtP (w : World) (fs : List F) (e : Ending) (w' : World) : Prop := e = .returned (.bool (rightF fs)) ∧ Below w.heap.size w w'
theorem RtP.mk {w w' : World} {fs : List F} {b : Bool} (h : rightF fs = b) (hb : Below w.heap.size w w') : RtP w fs (.returned (.bool b)) w' := ⟨by rw [h], hb⟩
set_option maxHeartbeats 1000000 in
theorem RightF_any (v : Value) (fs : List F) (w : World) (h : ReadsFields w v fs) (hl : fs.length ≤ 100000) :
    Calls Tryz.prog 196 #[v] w (RtP w fs) := by
  obtain ⟨a, c, e⟩ := h.form_
  subst e
  have HR := Lib.hid h
  clear h
  go_enter Tryz.func196, Tryz.ntmps196
  go_wp2_with fail
  go_loopw [3, 4, 9] (fun l r i wr => ∃ (k : Nat) (l0 r0 : Int), k ≤ fs.length ∧ l = .int .i64 l0 ∧ r = .int .i64 r0 ∧ i = .int .i64 k ∧ 0 ≤ r0 ∧ r0 ≤ 16384 ∧ Hid (rightL 0 16384 fs = rightL l0 r0 (fs.drop k)) ∧ Below w.heap.size w wr) (fun _ _ i _ => fs.length - (intOf i).toNat)
  case atStart => exact ⟨0, 0, 16384, Nat.zero_le _, rfl, rfl, rfl, by omega, by omega, rfl, Below.refl _ _⟩
  case round =>
    obtain ⟨k, l0, r0, hk, rfl, rfl, rfl, hr0, hr1, HL, hb⟩ := hrel
    obtain ⟨wo, rfl⟩ : ∃ wo : World, wo = wr := ⟨_, rfl⟩
    by_cases hlt : k < fs.length
    · have hltI : (k : Int) < fs.length := by omega
      obtain ⟨b, rfl, hbl, hat⟩ := HR.out.at_ (by omega)
      obtain ⟨a', c', h1, h2, _, _⟩ := hat k hlt
      clear hat
      have hd := HL.out
      rw [List.drop_eq_getElem_cons hlt, rightL] at hd
      have HN := Lib.hid hd
      have hm : Mod (fun _ => False) w wo := Mod.of_same hb
      have g1 := hm.cell (by simp) h1
      have g2 := hm.cell (by simp) h2
      clear hm h1 h2 hd HL
      generalize fs[k].1 = tg at *
      generalize fs[k].2.2.length = m at *
      by_cases d1 : l0 < tg
      · by_cases d2 : tg ≤ 200
        · by_cases d3 : (m : Int) ≤ r0
          · have HN2 : Hid (rightL 0 16384 fs = rightL tg (r0 - m) (fs.drop (k + 1))) := by rw [Hid, HN.out, decide_eq_true d1, decide_eq_true d2, decide_eq_true d3]; simp
            have hw1 : IntKind.i64.wrap (r0 - (m : Int)) = r0 - m := IntWalk.i64_in _ (by omega)
            have e1 : decide (tg ≤ l0) = false := by simpa using d1
            have e2 : decide (200 < tg) = false := by simpa using d2
            have e3 : decide (r0 < (m : Int)) = false := by simpa using d3
            go_wp2_with fail
            have hW : (wo.alloc (.cells #[.int .i64 tg, .slice a' m c'] 141)).heap[wo.heap.size]? = some (.cells #[.int .i64 tg, .slice a' m c'] 141) := World.alloc_heap_new wo _
            obtain ⟨hc0, hc1, -, -⟩ := pair_cells_ hW
            have hb2 : Below w.heap.size w (wo.alloc (.cells #[.int .i64 tg, .slice a' m c'] 141)) := hb.alloc hb.size _
            generalize wo.alloc (.cells #[.int .i64 tg, .slice a' m c'] 141) = W1 at *
            clear hW
            go_quiet (fail)
            go_wp2_with fail
            exact ⟨⟨k + 1, tg, r0 - m, by omega, rfl, rfl, by simp, by omega, by omega, HN2.out, below_drewN hb2 _⟩, by simp [intOf]; omega⟩
          · have HF : Hid (rightF fs = false) := by rw [Hid, rightF, HN.out, decide_eq_false d3]; simp
            have e1 : decide (tg ≤ l0) = false := by simpa using d1
            have e2 : decide (200 < tg) = false := by simpa using d2
            have e3 : decide (r0 < (m : Int)) = true := by simpa using d3
            go_wp2_with fail
            go_ret
            exact RtP.mk HF.out (hb.alloc hb.size _)
        · have HF : Hid (rightF fs = false) := by rw [Hid, rightF, HN.out, decide_eq_false d2]; simp
          have e1 : decide (tg ≤ l0) = false := by simpa using d1
          have e2 : decide (200 < tg) = true := by simpa using d2
          go_wp2_with fail
          go_ret
          exact RtP.mk HF.out (hb.alloc hb.size _)
      · have HF : Hid (rightF fs = false) := by rw [Hid, rightF, HN.out, decide_eq_false d1]; simp
        have e1 : decide (tg ≤ l0) = true := by simpa using d1
        go_wp2_with fail
        go_ret
        exact RtP.mk HF.out (hb.alloc hb.size _)
    · have HT : Hid (rightL 0 16384 fs = true) := by
        rw [Hid, HL.out, List.drop_eq_nil_of_le (by omega)]; rfl
      have HF : Hid (rightF fs = decide (fs.length ≤ 64)) := by rw [Hid, rightF, HT.out]; rfl
      by_cases h64 : fs.length ≤ 64
      · have HF2 : Hid (rightF fs = true) := by rw [Hid, HF.out, decide_eq_true h64]
        have h64I : decide ((fs.length : Int) ≤ 64) = true := by simp; omega
        clear HF
        go_wp2_with fail
        go_ret
        exact RtP.mk HF2.out hb
      · have HF2 : Hid (rightF fs = false) := by rw [Hid, HF.out, decide_eq_false h64]
        have h64I : decide ((fs.length : Int) ≤ 64) = false := by simp; omega
        clear HF
        go_wp2_with fail
        go_ret
        exact RtP.mk HF2.out hb
end Eng
end Go.Proofs.YtdfmgneicdpjmaaGreat

/- append of whatever slice (nil too) to a row that is owned (nil too); nothing of the program stands in it. -/
namespace Go.Proofs.YtdfmgneicdpjmaaGreat
open Go.RowKit Go.Shelf
set_option linter.unusedVariables false
set_option linter.unusedSimpArgs false
set_option maxRecDepth 100000
namespace App
open Resp

/-- A slice that yields m elements, of the cells ys. -/
def SrcAt (w : World) (u : Value) (m size : Nat) (ys : List Value) : Prop :=
  (∃ c, u = .slice none 0 c ∧ m = 0 ∧ ys = []) ∨ ∃ ad c, u = .slice (some ad) m c ∧ ys.length = m * size ∧ ∀ j y, ys[j]? = some y → w.cell? (ad.add j) = some y
theorem SrcAt.mod {S : Nat → Prop} {w w' : World} {u : Value} {m size : Nat} {ys : List Value} (h : SrcAt w u m size ys) (hm : Mod S w w') (hS : ∀ g, ¬ S g) : SrcAt w' u m size ys := by
  rcases h with h | ⟨ad, c, rfl, hl, hc⟩
  · exact .inl h
  · exact .inr ⟨ad, c, rfl, hl, fun j y hy => hm.cell (hS _) (hc j y hy)⟩
theorem SrcAt.below {w w' : World} {u : Value} {m size : Nat} {ys : List Value} (h : SrcAt w u m size ys) (hb : Below w.heap.size w w') : SrcAt w' u m size ys := h.mod (S := fun _ => False) (Mod.of_same hb) (by simp)
/-- A slice's block, if it has one. -/
def srcBlock : Value → Option Nat
  | .slice (some ad) _ _ => some ad.block
  | _ => none
theorem SrcAt.keep {S : Nat → Prop} {w w' : World} {u : Value} {m size : Nat} {ys : List Value} (h : SrcAt w u m size ys) (hm : Mod S w w') (hS : ∀ g, srcBlock u = some g → ¬ S g) : SrcAt w' u m size ys := by
  rcases h with h | ⟨ad, c, rfl, hl, hc⟩
  · exact .inl h
  · refine .inr ⟨ad, c, rfl, hl, fun j y hy => hm.cell ?_ (hc j y hy)⟩
    have : (ad.add j).block = ad.block := by cases ad with | mk b o s => cases j <;> cases s <;> simp [Addr.add]
    rw [this]
    exact hS _ rfl
theorem run_app {P : Program} (w : World) (base : Nat) (t ty e : TypeId) (i : TypeInfo) (z : Value) (size bytes : Nat) (ht : P.underlying t = some (.slice e)) (hi : P.info? e = some i) (hz : i.zero = some z)
    (hsize : i.size = size) (hby : i.bytes = bytes) (hzs : z.cells.size = size) (hsz : 0 < size)
    (v : Value) (n : Nat) (xs : List Value) (hown : w.ownsRow base e size v n xs) (u : Value) (m : Nat) (ys : List Value) (hsrc : SrcAt w u m size ys) (h1 : ∀ y ∈ ys, y.oneCell' = true)
    (h63 : n + m ≤ maxLen) (hbytes : (n + m) * bytes ≤ 140737488355328) (hbase : base ≤ w.heap.size) :
    ∃ a' c' w', (Builtin.append_ #[t, t] ty #[v, u]).run P w = .ok (.slice a' (n + m) c') w' ∧ w'.ownsRow base e size (.slice a' (n + m) c') (n + m) (xs ++ ys) ∧ w.grownBy w' v.ownBlock ∧
      ∀ g, (Value.slice a' (n + m) c').ownBlock = some g → v.ownBlock = some g ∨ g = w.heap.size := by
  rcases hsrc with ⟨c, rfl, rfl, rfl⟩ | ⟨ad, c, rfl, hl, hc⟩
  · rw [List.append_nil, Nat.add_zero]
    rcases hown.2 with ⟨rfl, rfl⟩ | ⟨g, cap, cur, rfl, hb, hg, h2, h3, h4, h5⟩
    · refine ⟨none, 0, w, ?_, hown, ⟨rfl, rfl, rfl, Nat.le_refl _, fun _ _ _ => rfl⟩, fun g hg => by cases hg⟩
      have hs := Src.ofNil (P := P) (w := w) (size := i.size) ht c
      simp [Builtin.append_, run_underlying ht, sizeOf, typeInfo, hi, hs.len, hs.cells]
    · have hs := Src.ofNil (P := P) (w := w) (size := i.size) ht c
      have := run_append_room_src (w := w) t t ty e i ht hi g 0 n cap _ 0 [] hs (by omega) (by simp) (by simp)
      exact ⟨_, _, _, this, by simpa [World.setCells] using hown, by rw [World.setCells]; exact ⟨rfl, rfl, rfl, Nat.le_refl _, fun _ _ _ => rfl⟩, fun g' hg' => .inl hg'⟩
  · obtain ⟨v', w', hr, h2, h3, -, h5⟩ := run_append_own_at (P := P) w base t ty e i z size bytes ht hi hz hsize hby hzs hsz v n xs hown ad m c ys hl hc h1 h63 hbytes hbase
    obtain ⟨a', c', rfl⟩ := ownsRow_form h2
    refine ⟨a', c', w', hr, h2, h3, fun g hg => ?_⟩
    rcases h5 with h5 | h5
    · exact .inl (by rw [← h5]; exact hg)
    · right
      rw [hg] at h5
      injection h5
theorem wp_app {P : Program} (w : World) {o : Oper} {a : Act} {K : Act → World → Prop} {Q : Exit → Act → World → Prop} (s x : Operand) (t : TypeId)
    (ho : o.op = .call { callee := .builtin .append, args := #[s, x], argTypes := #[t, t] })
    (base : Nat) (e : TypeId) (i : TypeInfo) (z : Value) (size bytes : Nat) (ht : P.underlying t = some (.slice e)) (hi : P.info? e = some i) (hz : i.zero = some z)
    (hsize : i.size = size) (hby : i.bytes = bytes) (hzs : z.cells.size = size) (hsz : 0 < size)
    (v : Value) (n : Nat) (xs : List Value) (hs : a.eval s = v) (hown : w.ownsRow base e size v n xs)
    (u : Value) (m : Nat) (ys : List Value) (hx : a.eval x = u) (hsrc : SrcAt w u m size ys) (h1 : ∀ y ∈ ys, y.oneCell' = true)
    (h63 : n + m ≤ maxLen) (hbytes : (n + m) * bytes ≤ 140737488355328) (hbase : base ≤ w.heap.size) (H : Nat) (hH : w.heap.size = H)
    (h : ∀ a' c' w', w'.ownsRow base e size (.slice a' (n + m) c') (n + m) (xs ++ ys) → w.grownBy w' v.ownBlock → (∀ g, (Value.slice a' (n + m) c').ownBlock = some g → v.ownBlock = some g ∨ g = H) → K (a.put o.dst (.slice a' (n + m) c')) w') : o.wp P a w K Q := by
  obtain ⟨a', c', w', hr, h2, h3, h4⟩ := run_app (P := P) w base t o.type e i z size bytes ht hi hz hsize hby hzs hsz v n xs hown u m ys hsrc h1 h63 hbytes hbase
  rw [hH] at h4
  unfold Oper.wp execOp
  simp only [ho, resolve, invoke, builtin, Sem.run_bind, Sem.run_pure, Result.andThen_ok, List.map_toArray, List.map_cons, List.map_nil, hs, hx, hr]
  exact h a' c' w' h2 h3 h4
theorem wpList_app {P : Program} (w : World) {ops : Array Oper} {rest : List Oper} {o : Oper} {a : Act} {Q : Exit → Act → World → Prop} (hgd : o.guard = none) (s x : Operand) (t : TypeId)
    (ho : o.op = .call { callee := .builtin .append, args := #[s, x], argTypes := #[t, t] })
    (base : Nat) (e : TypeId) (i : TypeInfo) (z : Value) (size bytes : Nat) (ht : P.underlying t = some (.slice e)) (hi : P.info? e = some i) (hz : i.zero = some z)
    (hsize : i.size = size) (hby : i.bytes = bytes) (hzs : z.cells.size = size) (hsz : 0 < size)
    (v : Value) (n : Nat) (xs : List Value) (hs : a.eval s = v) (hown : w.ownsRow base e size v n xs)
    (u : Value) (m : Nat) (ys : List Value) (hx : a.eval x = u) (hsrc : SrcAt w u m size ys) (h1 : ∀ y ∈ ys, y.oneCell' = true)
    (h63 : n + m ≤ maxLen) (hbytes : (n + m) * bytes ≤ 140737488355328) (hbase : base ≤ w.heap.size) (H : Nat) (hH : w.heap.size = H)
    (h : ∀ a' c' w', w'.ownsRow base e size (.slice a' (n + m) c') (n + m) (xs ++ ys) → w.grownBy w' v.ownBlock → (∀ g, (Value.slice a' (n + m) c').ownBlock = some g → v.ownBlock = some g ∨ g = H) → wpList P ops Q rest (a.put o.dst (.slice a' (n + m) c')) w') : wpList P ops Q (o :: rest) a w :=
  wpList_plain hgd fun _ hK => wp_app w s x t ho base e i z size bytes ht hi hz hsize hby hzs hsz v n xs hs hown u m ys hx hsrc h1 h63 hbytes hbase H hH fun a' c' w' h2 h3 h4 => hK _ _ (h a' c' w' h2 h3 h4)
theorem step_app {P : Program} (w : World) {ops : Array Oper} {o : Oper} {a : Act} {K : Act → World → Prop} {Q : Exit → Act → World → Prop} {E : Prop} (hgd : o.guard = none) (s x : Operand) (t : TypeId)
    (ho : o.op = .call { callee := .builtin .append, args := #[s, x], argTypes := #[t, t] })
    (base : Nat) (e : TypeId) (i : TypeInfo) (z : Value) (size bytes : Nat) (ht : P.underlying t = some (.slice e)) (hi : P.info? e = some i) (hz : i.zero = some z)
    (hsize : i.size = size) (hby : i.bytes = bytes) (hzs : z.cells.size = size) (hsz : 0 < size)
    (v : Value) (n : Nat) (xs : List Value) (hs : a.eval s = v) (hown : w.ownsRow base e size v n xs)
    (u : Value) (m : Nat) (ys : List Value) (hx : a.eval x = u) (hsrc : SrcAt w u m size ys) (h1 : ∀ y ∈ ys, y.oneCell' = true)
    (h63 : n + m ≤ maxLen) (hbytes : (n + m) * bytes ≤ 140737488355328) (hbase : base ≤ w.heap.size) (H : Nat) (hH : w.heap.size = H)
    (h : ∀ a' c' w', w'.ownsRow base e size (.slice a' (n + m) c') (n + m) (xs ++ ys) → w.grownBy w' v.ownBlock → (∀ g, (Value.slice a' (n + m) c').ownBlock = some g → v.ownBlock = some g ∨ g = H) → K (a.put o.dst (.slice a' (n + m) c')) w') :
    if Region.wanted o (yielded ops a.tmps) = true then Oper.wp P o a w K Q else E := by
  have hw : Region.wanted o (yielded ops a.tmps) = true := by simp [Region.wanted, hgd]
  rw [if_pos hw]
  exact wp_app w s x t ho base e i z size bytes ht hi hz hsize hby hzs hsz v n xs hs hown u m ys hx hsrc h1 h63 hbytes hbase H hH h
theorem SrcAt.bytes {w : World} {v : Value} {zs : List Int} (h : Reads .u8 w v zs) : SrcAt w v zs.length 1 (u8s zs) := by
  rcases h with ⟨a, c, rfl, rfl⟩ | ⟨b, o, c, rfl, hl, hc⟩
  · cases a with
    | none => exact .inl ⟨c, rfl, rfl, rfl⟩
    | some ad => exact .inr ⟨ad, c, rfl, by simp [u8s], fun j y hy => by simp [u8s] at hy⟩
  · refine .inr ⟨⟨b, o, none⟩, c, rfl, by simp [u8s], fun j y hy => ?_⟩
    obtain ⟨hj, hy2⟩ := List.getElem?_eq_some_iff.1 hy
    have hj2 : j < zs.length := by simpa [u8s] using hj
    have h9 := hc j hj2
    rw [List.getElem?_eq_getElem hj2] at h9
    have h8 : (u8s zs)[j] = .int .u8 zs[j] := by simp [u8s]
    rw [← hy2, h8]
    have h7 : (⟨b, o, none⟩ : Addr).add j = ⟨b, o + j, none⟩ := by cases j <;> simp [Addr.add]
    rw [h7]
    simpa using h9
end App
end Go.Proofs.YtdfmgneicdpjmaaGreat

/- field.Write at whatever fields. -/
namespace Go.Proofs.YtdfmgneicdpjmaaGreat
open Go.RowKit Go.Shelf
set_option linter.unusedVariables false
set_option linter.unusedSimpArgs false
set_option maxRecDepth 100000
namespace Eng
open Resp App

theorem rightL_mem : ∀ (fs : List F) (l r : Int), rightL l r fs = true → ∀ f ∈ fs, l < f.1 ∧ f.1 ≤ 200 ∧ (f.2.2.length : Int) ≤ r
  | [], _, _, _, f, hf => by cases hf
  | g :: fs, l, r, h, f, hf => by
    rw [rightL, Bool.and_eq_true, Bool.and_eq_true, Bool.and_eq_true, decide_eq_true_eq, decide_eq_true_eq, decide_eq_true_eq] at h
    obtain ⟨⟨⟨h1, h2⟩, h3⟩, h4⟩ := h
    rcases List.mem_cons.1 hf with rfl | hf
    · exact ⟨h1, h2, h3⟩
    · obtain ⟨h5, h6, h7⟩ := rightL_mem fs _ _ h4 f hf
      exact ⟨by omega, h6, by omega⟩
theorem flat_len : ∀ (fs : List F) (l r : Int), rightL l r fs = true → (∀ f ∈ fs, f.2.2.length < 18446744073709551616) → ((flat fs).length : Int) ≤ 10 * fs.length + (if fs = [] then 0 else r)
  | [], _, r, _, _ => by simp [flat]
  | g :: fs, l, r, h, hb => by
    rw [rightL, Bool.and_eq_true, Bool.and_eq_true, Bool.and_eq_true, decide_eq_true_eq, decide_eq_true_eq, decide_eq_true_eq] at h
    obtain ⟨⟨⟨h1, h2⟩, h3⟩, h4⟩ := h
    have ih := flat_len fs _ _ h4 (fun f hf => hb f (List.mem_cons_of_mem _ hf))
    have h9 := numBytes_length (x := g.2.2.length) (hb g List.mem_cons_self)
    have h8 : (fieldBytes g).length = 1 + (numBytes g.2.2.length).length + g.2.2.length := by simp [fieldBytes]; omega
    have h7 : flat (g :: fs) = fieldBytes g ++ flat fs := by simp [flat]
    rw [h7, List.length_append, h8, if_neg (by simp)]
    simp only [List.length_cons]
    split at ih
    · omega
    · omega
theorem flat_take_len {fs : List F} (h : rightL 0 16384 fs = true) {k : Nat} (hk : k ≤ fs.length) (h64 : fs.length ≤ 64) : (flat (fs.take k)).length ≤ 17024 := by
  have hm := rightL_mem fs 0 16384 h
  have hf : flat fs = flat (fs.take k) ++ flat (fs.drop k) := by
    have h9 : flat (fs.take k ++ fs.drop k) = flat (fs.take k) ++ flat (fs.drop k) := by simp only [flat, List.flatMap_append]
    rwa [List.take_append_drop] at h9
  have h1 := flat_len fs 0 16384 h (fun f hf => by have := (hm f hf).2.2; omega)
  have h2 := congrArg List.length hf
  rw [List.length_append] at h2
  split at h1 <;> omega
def WfP (w : World) (fs : List F) (e : Ending) (w' : World) : Prop := if rightF fs = true then (∃ v, e = .returned (.tuple #[v, .int .i64 0]) ∧ w'.ownsRow w.heap.size 5 1 v (flat fs).length (u8s (flat fs)) ∧ Below w.heap.size w w') else e = .returned (.tuple #[.slice none 0 0, .int .i64 20]) ∧ Below w.heap.size w w'
theorem WfP.no {w w' : World} {fs : List F} (h : rightF fs = false) (hb : Below w.heap.size w w') : WfP w fs (.returned (.tuple #[.slice none 0 0, .int .i64 20])) w' := by
  unfold WfP; rw [if_neg (by rw [h]; decide)]; exact ⟨rfl, hb⟩
theorem WfP.yes {w w' : World} {fs : List F} {v : Value} (h : rightF fs = true) (ho : w'.ownsRow w.heap.size 5 1 v (flat fs).length (u8s (flat fs))) (hb : Below w.heap.size w w') : WfP w fs (.returned (.tuple #[v, .int .i64 0])) w' := by
  unfold WfP; rw [if_pos h]; exact ⟨v, rfl, ho, hb⟩
set_option maxHeartbeats 1000000 in
theorem WriteF_any (v : Value) (fs : List F) (w : World) (h : ReadsFields w v fs) (hl : fs.length ≤ 100000) :
    Calls Tryz.prog 152 #[v] w (WfP w fs) := by
  obtain ⟨i0, hi, hz0, hz1, hz2⟩ := info_parts infoByte
  obtain ⟨a, c, e⟩ := ReadsFields.form_ h
  subst e
  have HR := Lib.hid h
  have HRT := Lib.hid (RightF_any _ fs w h hl)
  have HQ : Hid (∀ e w', RtP w fs e w' → e = .returned (.bool (rightF fs)) ∧ Below w.heap.size w w') := fun e w' h => h
  clear h
  cases hr : rightF fs with
  | false =>
    have HF := Lib.hid hr
    clear hr
    go_enter Tryz.func152, Tryz.ntmps152
    go_wp2_with fail
    refine HRT.out.mono ?_; rintro e wa hq
    obtain ⟨rfl, hba⟩ := HQ.out e wa hq
    rw [HF.out]
    have HB := Lib.hid hba
    clear hq hba HQ HRT
    go_wp2_with fail
    go_ret2
    exact WfP.no HF.out HB.out
  | true =>
    have HF := Lib.hid hr
    have h64 : fs.length ≤ 64 := by unfold rightF at hr; rw [Bool.and_eq_true, decide_eq_true_eq] at hr; exact hr.2
    have hrl : rightL 0 16384 fs = true := by unfold rightF at hr; rw [Bool.and_eq_true] at hr; exact hr.1
    have HMEM := Lib.hid (rightL_mem fs 0 16384 hrl)
    have HLEN := Lib.hid (fun (k : Nat) (hk : k ≤ fs.length) => flat_take_len hrl hk h64)
    have hlI : (fs.length : Int) ≤ 64 := by omega
    clear hr hrl
    go_enter Tryz.func152, Tryz.ntmps152
    go_wp2_with fail
    refine HRT.out.mono ?_; rintro e wa hq
    obtain ⟨rfl, hba⟩ := HQ.out e wa hq
    rw [HF.out]
    clear hq HQ HRT
    go_wp2_with fail
    go_loopw [4, 12] (fun d i wr => ∃ (k n : Nat) (ad : Option Addr) (cd : Nat), k ≤ fs.length ∧ d = .slice ad n cd ∧ i = .int .i64 k ∧ Hid (wr.ownsRow w.heap.size 5 1 (.slice ad n cd) n (u8s (flat (fs.take k)))) ∧ Below w.heap.size w wr) (fun _ i _ => fs.length - (intOf i).toNat)
    case atStart => exact ⟨0, 0, none, 0, Nat.zero_le _, rfl, rfl, owns_nil _ _ _ _, hba⟩
    case round =>
      clear hba
      obtain ⟨k, n, ad, cd, hk, rfl, rfl, HO, hb⟩ := hrel
      have hn : n ≤ 17024 := by have h1 := HO.out.1; rw [u8s_length] at h1; have := HLEN.out k hk; omega
      obtain ⟨wo, rfl⟩ : ∃ wo : World, wo = wr := ⟨_, rfl⟩
      by_cases hlt : k < fs.length
      · have hltI : (k : Int) < fs.length := by omega
        obtain ⟨b, rfl, hbl, hat⟩ := ReadsFields.at_ HR.out (by omega)
        obtain ⟨a', c', h1, h2, hv, hrd⟩ := hat k hlt
        clear hat
        obtain ⟨t0, t1, m1⟩ := HMEM.out fs[k] (List.getElem_mem hlt)
        rw [hv] at hrd
        have HSRC := Lib.hid (SrcAt.bytes hrd)
        have HT := Lib.hid (flat_take hlt)
        have hzl := numBytes_length (x := fs[k].2.2.length) (by omega)
        have hm : Mod (fun _ => False) w wo := Mod.of_same hb
        have g1 := hm.cell (by simp) h1
        have g2 := hm.cell (by simp) h2
        have hs9 := hzl.2
        clear hm h1 h2 hv hrd hzl
        rw [fieldBytes] at HT
        generalize fs[k].1 = tg at *
        generalize fs[k].2.2 = bs at *
        generalize hmL : bs.length = m at *
        have HML := Lib.hid hmL
        clear hmL
        have hw2 : IntKind.u64.wrap (m : Int) = (m : Int) := by rw [IntKind.wrap_u64]; omega
        have hw1 : IntKind.u8.wrap tg = tg := by rw [IntKind.wrap_u8]; omega
        go_wp2_with fail
        have hW : (wo.alloc (.cells #[.int .i64 tg, .slice a' m c'] 141)).heap[wo.heap.size]? = some (.cells #[.int .i64 tg, .slice a' m c'] 141) := World.alloc_heap_new wo _
        obtain ⟨hc0, hc1, -, -⟩ := pair_cells_ hW
        have hbW : Below w.heap.size w (wo.alloc (.cells #[.int .i64 tg, .slice a' m c'] 141)) := hb.alloc hb.size _
        have hOW := HO.out.alloc (.cells #[.int .i64 tg, .slice a' m c'] 141)
        have HNE : Hid (¬ some wo.heap.size = (Value.slice ad n cd).ownBlock) := fun e => Nat.lt_irrefl _ (ownBlock_lt_ HO.out e.symm)
        generalize wo.alloc (.cells #[.int .i64 tg, .slice a' m c'] 141) = W1 at *
        generalize wo.heap.size = B at *
        have HOW := Lib.hid hOW
        have hszW := hbW.size
        have HBW := Lib.hid hbW
        have HHW := Lib.hid hW
        clear hW HO hb hOW hbW
        have HM64 : Hid (m < 18446744073709551616) := Lib.hid (by omega)
        have HN1 : Hid (n + 1 ≤ 1048576) := Lib.hid (by omega)
        go_region_held3 (fun W => W.cell? ⟨B, 0, none⟩ = some (.int .i64 tg) ∧ W.cell? ⟨B, 1, none⟩ = some (.slice a' m c'))
          (first | (with_reducible exact HK3.out) | (with_reducible exact HK2.out) | (with_reducible exact HK1.out) | go_keep)
          ((first
            | (refine step_append_lies _ (by rfl) _ _ _ (by rfl) w.heap.size 5 i0 _ 1 1 Tryz.underlying25 hi hz0 hz1 hz2 rfl (by omega) (.slice ad n cd) n _ (by rfl) (owns_up HOW.out (by repeat (first | exact Below.refl _ _ | refine below_alloc_ ?_ _ | refine below_drew_ ?_))) _ 1 1 [.int .u8 tg] (by rfl) (by rfl) (news_one_ (by simp)) (by simp [Value.oneCell']) (by omega) (by unfold maxLen; omega) (by omega) (by simp; try omega) _ (by rfl) ?_; intro x1 y1 w1 hown1 hgrow1 hat1 hlt1; have HO1 := Lib.hid hown1; have HM1 := Lib.hid ((Mod.of_same (S := fun k => some k = (Value.slice ad n cd).ownBlock) (w := W1) (by repeat (first | exact Below.refl _ _ | refine below_alloc_ ?_ _ | refine below_drew_ ?_))).trans (Mod.of_grownBy hgrow1)); have HK1 : Hid (w1.cell? ⟨B, 0, none⟩ = some (.int .i64 tg) ∧ w1.cell? ⟨B, 1, none⟩ = some (.slice a' m c')) := ⟨HM1.out.cell HNE.out hc0, HM1.out.cell HNE.out hc1⟩; have HA1 := Lib.hid hat1; have HZ1 := Lib.hid (Nat.le_trans hszW HM1.out.size); clear hown1 hgrow1 hat1)
            | (go_at_call 197; refine (Append_any m HM64.out w.heap.size (n + 1) (.slice (some ⟨x1, 0, none⟩) (n + 1) y1) (u8s (flat (fs.take k)) ++ [.int .u8 tg]) _ (by exact HO1.out) HN1.out (by exact HZ1.out)).mono ?_; rintro e w2 ⟨v2, rfl, hown2, hm2⟩; obtain ⟨x2, y2, e2⟩ := ownsRow_form hown2; subst e2; have HO2 := Lib.hid hown2; have HM2 := Lib.hid (own_step_ HM1.out (Mod.trans (Mod.of_same (by repeat (first | exact Below.refl _ _ | refine below_alloc_ ?_ _ | refine below_drew_ ?_))) hm2) HA1.out (by simp)); have HK2 : Hid (w2.cell? ⟨B, 0, none⟩ = some (.int .i64 tg) ∧ w2.cell? ⟨B, 1, none⟩ = some (.slice a' m c')) := ⟨HM2.out.cell HNE.out hc0, HM2.out.cell HNE.out hc1⟩; clear hown2 hm2)
            | (refine step_app _ (by rfl) _ _ _ (by rfl) w.heap.size 5 i0 _ 1 1 Tryz.underlying25 hi hz0 hz1 hz2 rfl (by omega) (.slice x2 (n + 1 + sizeN m) y2) (n + 1 + sizeN m) _ (by rfl) (owns_up HO2.out (by repeat (first | exact Below.refl _ _ | refine below_alloc_ ?_ _ | refine below_drew_ ?_))) (.slice a' m c') m (u8s bs) (by rfl) ((HSRC.out.below (HBW.out.trans (HM2.out.below hszW (fun k hk e => by have := ownBlock_ge_ HOW.out e.symm; omega)))).below (by repeat (first | exact Below.refl _ _ | refine below_alloc_ ?_ _ | refine below_drew_ ?_))) (u8s_one _) (by unfold maxLen; omega) (by omega) (by have := HM2.out.size; show w.heap.size ≤ w2.heap.size; omega) _ (by rfl) ?_; intro x3 y3 w3 hown3 hgrow3 hat3; have HO3 := Lib.hid hown3; have HM3 := Lib.hid (Mod.of_grownBy hgrow3); have HK3 : Hid (w3.cell? ⟨B, 0, none⟩ = some (.int .i64 tg) ∧ w3.cell? ⟨B, 1, none⟩ = some (.slice a' m c')) := ⟨HM3.out.cell (own_other_ HO2.out (HM2.out.heap HHW.out HNE.out) (by decide)) HK2.out.1, HM3.out.cell (own_other_ HO2.out (HM2.out.heap HHW.out HNE.out) (by decide)) HK2.out.2⟩; clear hown3 hgrow3 hat3)))
        have hb2 : Below w.heap.size w w2 := HBW.out.trans (HM2.out.below hszW (fun k hk e => by have := ownBlock_ge_ HOW.out e.symm; omega))
        have HB3 : Hid (Below w.heap.size w w3) := hb2.trans (HM3.out.below hb2.size (fun k hk e => by have := ownBlock_ge_ HO2.out e.symm; omega))
        have hrow := HO3.out
        rw [show u8s (flat (fs.take k)) ++ [Value.int .u8 tg] ++ u8s (numBytes m) ++ u8s bs = u8s (flat (fs.take (k + 1))) by rw [HT.out, u8s_append, u8s_cons, u8s_append]; simp only [List.append_assoc]] at hrow
        have HROW := Lib.hid hrow
        clear hrow hb2 HK3 HK2 HK1
        generalize n + 1 + sizeN m + m = n3 at *
        go_wp2_with fail
        exact ⟨⟨k + 1, n3, _, _, by omega, rfl, by simp, HROW.out, HB3.out⟩, by simp [intOf]; omega⟩
      · have HO2 : Hid (wo.ownsRow w.heap.size 5 1 (.slice ad n cd) (flat fs).length (u8s (flat fs))) := by
          have h2 := HO.out
          rw [show k = fs.length by omega, List.take_length] at h2
          have := h2.1
          simp [u8s] at this
          rw [Hid, this]; exact h2
        have HB := Lib.hid hb
        clear hb
        go_wp2_with fail
        go_ret2
        exact WfP.yes HF.out HO2.out HB.out
end Eng
end Go.Proofs.YtdfmgneicdpjmaaGreat
