import Derived.Test.YtdfmgneicdpjmaaGreatM08
import Derived.Test.YtdfmgneicdpjmaaGreatM01
import Derived.Test.YtdfmgneicdpjmaaGreatM04
import Derived.Laws.RangeString
import Derived.Deep.RegionHeld3
/- model.Need over moves of which at most one is a frame. -/
namespace Go.Proofs.YtdfmgneicdpjmaaGreat
open Go.RowKit Go.Shelf
set_option linter.unusedVariables false
set_option linter.unusedSimpArgs false
set_option maxRecDepth 100000
namespace Resp
attribute [-go_sem] Instr.storeAt
attribute [local go_sem] st_open_ st_new_
set_option maxHeartbeats 2000000 in
theorem Need_any (v : Value) (ms : List Bool) (W : World) (h : MovesAt W v ms) (hms : ms.length ≤ 100) (hf : framesN ms ≤ 1) :
    Calls Tryz.prog 44 #[v] W fun e w' => e = .returned (.tuple #[.int .i64 0, .int .i64 0]) ∧ Below W.heap.size W w' := by
  obtain ⟨a, c, e⟩ := MovesAt.form h
  subst e
  have HMV := Lib.hid h
  have HRUN := Lib.hid (Run_any _ ms W h hms hf)
  have HFR := Lib.hid (fun W' (h' : MovesAt W' (.slice a ms.length c) ms) => Frames_any _ ms W' h' hms)
  have HTU := Lib.hid (fun W' (h' : MovesAt W' (.slice a ms.length c) ms) => Turns_any _ ms W' h' hms)
  have hfl := framesN_le ms
  have hw1 : IntKind.i64.wrap (((ms.length : Int) - (framesN ms : Int)) - ((ms.length : Int) - (framesN ms : Int))) = 0 := by rw [IntKind.wrap_i64]; omega
  clear h
  generalize hff : framesN ms = f at *
  have HF := Lib.hid hff
  clear hff
  generalize hLL : ms.length = L at *
  have HL := Lib.hid hLL
  clear hLL
  go_enter Tryz.func44, Tryz.ntmps44
  go_wp2_with fail
  refine HRUN.out.mono ?_; rintro e W1 ⟨vo, rfl, -, hb1⟩
  have HB1 := Lib.hid hb1
  have HMV1 := Lib.hid (HMV.out.below hb1)
  clear hb1
  go_upto_region 2 with fail
  have hbz : Below W1.heap.size W1 (W1.alloc (.cells #[.bool false, .bool false, .int .i64 (f : Int), .int .i64 1, .int .i64 0, .int .i64 0, .int .i64 0, .int .i64 0, .int .i64 0, .int .i64 0, .int .i64 0, .int .u64 0, .int .i64 0, .int .i64 0, .int .i64 0, .int .i64 0, .int .i64 0, .int .i64 0, .slice none 0 0, .int .i64 0, .slice none 0 0, .slice none 0 0, .slice none 0 0, .slice none 0 0] 89)) := (Below.refl _ _).alloc (Nat.le_refl _) _
  have HMV2 := Lib.hid (HMV1.out.below hbz)
  have HB2 := Lib.hid (HB1.out.trans (hbz.mono HB1.out.size))
  clear hbz HMV1 HB1
  generalize W1.alloc (.cells #[.bool false, .bool false, .int .i64 (f : Int), .int .i64 1, .int .i64 0, .int .i64 0, .int .i64 0, .int .i64 0, .int .i64 0, .int .i64 0, .int .i64 0, .int .u64 0, .int .i64 0, .int .i64 0, .int .i64 0, .int .i64 0, .int .i64 0, .int .i64 0, .slice none 0 0, .int .i64 0, .slice none 0 0, .slice none 0 0, .slice none 0 0, .slice none 0 0] 89) = W2 at *
  generalize W1.heap.size = P at *
  go_wp2_with fail
  refine (HFR.out W2 HMV2.out).mono ?_; rintro e W3 ⟨vo2, rfl, ho3, hb3⟩
  have HB3 := Lib.hid (HB2.out.trans (hb3.mono HB2.out.size))
  have HMV3 := Lib.hid (HMV2.out.below hb3)
  have HF3 := Lib.hid ho3.frames
  clear ho3 hb3
  obtain ⟨fa, fc, e⟩ := Frames1.form HF3.out
  subst e
  go_wp2_with fail
  refine (Answers_short _ f W3 HF3.out (by omega)).mono ?_; rintro e W4 ⟨vo4, vt, rfl, -, ht4, hb4⟩
  obtain ⟨ta, tc, e⟩ := ownsRow_form ht4
  subst e
  have HB4 := Lib.hid (HB3.out.trans (hb4.mono HB3.out.size))
  have HMV4 := Lib.hid (HMV3.out.below hb4)
  have HT4 := Lib.hid ht4
  clear ht4 hb4
  go_wp2_with fail
  refine (HTU.out W4 HMV4.out).mono ?_; rintro e W5 ⟨rfl, hb5⟩
  have HB5 := Lib.hid (HB4.out.trans (hb5.mono HB4.out.size))
  have HT5 : Hid (Reads .i64 W5 (.slice ta f tc) (List.replicate f 0)) := Reads.of_owns (zs := List.replicate f 0) (by rw [List.map_replicate]; exact owns_up HT4.out hb5)
  clear hb5
  go_wp2_with fail
  go_loopw [11, 38] (fun d i wr => ∃ k : Nat, k ≤ f ∧ i = .int .i64 k ∧ d = .int .i64 0 ∧ wr = W5) (fun _ i _ => f - (intOf i).toNat)
  case atStart => exact ⟨0, Nat.zero_le _, rfl, rfl, rfl⟩
  case round =>
    obtain ⟨k, hk, rfl, rfl, rfl⟩ := hrel
    by_cases hlt : k < f
    · have hltI : (k : Int) < f := by omega
      rcases HT5.out with ⟨a2, c2, e2, e3⟩ | ⟨b, o, c2, e2, hl2, hc⟩
      · have := congrArg List.length e3; simp at this; omega
      · rw [List.length_replicate] at e2
        cases e2
        have hcell := hc k (by simpa using hlt)
        rw [List.getElem?_eq_getElem (by simpa using hlt), Option.getD_some, List.getElem_replicate] at hcell
        clear hc
        go_wp2_with fail
        exact ⟨⟨k + 1, by omega, by simp, by first | rfl | simp, by first | rfl | trivial⟩, by simp [intOf]; omega⟩
    · go_wp2_with fail
      go_returns
      exact ⟨rfl, HB5.out⟩
end Resp
end Go.Proofs.YtdfmgneicdpjmaaGreat
/- code.One. -/
namespace Go.Proofs.YtdfmgneicdpjmaaGreat
open Go.RowKit Go.Shelf
attribute [local go_sem] Oper.semAt_some
set_option linter.unusedVariables false
set_option linter.unusedSimpArgs false
set_option maxRecDepth 100000
namespace Eng
open Resp

/-- An instruction. -/
structure Ins where
  op : Int
  a : Int
  b : Int
  c : Int
  n : Int
deriving DecidableEq
def insV (i : Ins) : Value := .agg #[.int .u8 i.op, .int .u8 i.a, .int .u8 i.b, .int .u8 i.c, .int .i64 i.n]
structure InsOk (i : Ins) : Prop where
  op0 : 0 ≤ i.op
  op1 : i.op ≤ 255
  a0 : 0 ≤ i.a
  a1 : i.a ≤ 255
  b0 : 0 ≤ i.b
  b1 : i.b ≤ 255
  c0 : 0 ≤ i.c
  c1 : i.c ≤ 255
def regAt (r : Int × Int × Int) : Nat → Int
  | 0 => r.1
  | 1 => r.2.1
  | _ => r.2.2
def regZ (r : Int × Int × Int) : Nat → Int × Int × Int
  | 0 => (0, r.2.1, r.2.2)
  | 1 => (r.1, 0, r.2.2)
  | _ => (r.1, r.2.1, 0)
def oneStep (s : (Int × Int × Int) × Nat × Int) (l : UInt8) : (Int × Int × Int) × Nat × Int :=
  if l = 114 then (if regAt s.1 s.2.1 < 8 then (regZ s.1 s.2.1, s.2.1 + 1, s.2.2) else s)
  else if l = 110 ∨ (l = 112 ∧ 0 ≤ s.2.2 ∧ s.2.2 < 16) ∨ (l = 116 ∧ 0 ≤ s.2.2 ∧ s.2.2 < 256) then (s.1, s.2.1, 0) else s
def oneS (i : Ins) (k : Nat) : (Int × Int × Int) × Nat × Int := ((frmL i.op).take k).foldl oneStep ((i.a, i.b, i.c), 0, i.n)
def oneE (i : Ins) : Int := if frmB i.op = true then (if (oneS i (frmL i.op).length).1 = (0, 0, 0) ∧ (oneS i (frmL i.op).length).2.2 = 0 then 0 else 141) else 140
theorem oneS_succ {i : Ins} {k : Nat} (h : k < (frmL i.op).length) : oneS i (k + 1) = oneStep (oneS i k) (frmL i.op)[k] := by
  unfold oneS
  rw [List.take_succ_eq_append_getElem h, List.foldl_append]
  rfl
theorem frmL_len (op : Int) : (frmL op).length ≤ 3 := by
  unfold frmL
  split
  · decide
  split
  · decide
  split
  · decide
  split
  · decide
  split
  · decide
  split
  · decide
  · decide
theorem oneS_used (i : Ins) : ∀ k, k ≤ (frmL i.op).length → (oneS i k).2.1 ≤ k
  | 0, _ => by simp [oneS]
  | k + 1, h => by
    have := oneS_used i k (by omega)
    rw [oneS_succ (by omega)]
    unfold oneStep
    split
    · split
      · simp; omega
      · omega
    · split
      · simp; omega
      · omega
def InsAt (W : World) (B : Nat) (op a b c n : Int) : Prop := W.heap[B]? = some (.cells #[.int .u8 op, .int .u8 a, .int .u8 b, .int .u8 c, .int .i64 n] 169)
theorem InsAt.cells {W : World} {B : Nat} {op a b c n : Int} (h : InsAt W B op a b c n) : W.cell? ⟨B, 0, none⟩ = some (.int .u8 op) ∧ W.cell? ⟨B, 1, none⟩ = some (.int .u8 a) ∧ W.cell? ⟨B, 2, none⟩ = some (.int .u8 b) ∧ W.cell? ⟨B, 3, none⟩ = some (.int .u8 c) ∧ W.cell? ⟨B, 4, none⟩ = some (.int .i64 n) := by
  have h' : W.heap[B]? = _ := h
  refine ⟨?_, ?_, ?_, ?_, ?_⟩ <;> simp [World.cell?, h']
theorem InsAt.below {W W' : World} {B : Nat} {op a b c n : Int} (h : InsAt W B op a b c n) (hb : Below W.heap.size W W') : InsAt W' B op a b c n := (Mod.of_same (S := fun _ => False) hb).heap h (by simp)
theorem InsAt.alloc {W : World} {B : Nat} {op a b c n : Int} (h : InsAt W B op a b c n) (o : Obj) : InsAt (W.alloc o) B op a b c n := h.below ((Below.refl _ _).alloc (Nat.le_refl _) o)
def RegB (W : World) (B : Nat) (r : Int × Int × Int) : Prop := W.heap[B]? = some (.cells #[.int .u8 r.1, .int .u8 r.2.1, .int .u8 r.2.2] 378)
theorem RegB.cells {W : World} {B : Nat} {r : Int × Int × Int} (h : RegB W B r) : W.cell? ⟨B, 0, none⟩ = some (.int .u8 r.1) ∧ W.cell? ⟨B, 1, none⟩ = some (.int .u8 r.2.1) ∧ W.cell? ⟨B, 2, none⟩ = some (.int .u8 r.2.2) ∧ W.frozen? ⟨B, 0, none⟩ = false ∧ W.frozen? ⟨B, 1, none⟩ = false ∧ W.frozen? ⟨B, 2, none⟩ = false := by
  have h' : W.heap[B]? = _ := h
  refine ⟨?_, ?_, ?_, ?_, ?_, ?_⟩ <;> first | simp [World.cell?, h'] | simp [World.frozen?, h']
theorem RegB.below {W W' : World} {B : Nat} {r : Int × Int × Int} (h : RegB W B r) (hb : Below W.heap.size W W') : RegB W' B r := (Mod.of_same (S := fun _ => False) hb).heap h (by simp)
theorem RegB.new (W : World) (x y z : Int) : RegB (W.alloc (.cells #[.int .u8 x, .int .u8 y, .int .u8 z] 378)) W.heap.size (x, y, z) := World.alloc_heap_new W _
theorem RegB.set {W : World} {B : Nat} {r : Int × Int × Int} (h : RegB W B r) (x y z : Int) : RegB (((W.setCell ⟨B, 0, none⟩ (.int .u8 x)).setCell ⟨B, 1, none⟩ (.int .u8 y)).setCell ⟨B, 2, none⟩ (.int .u8 z)) B (x, y, z) := by
  have := heap_set_ (heap_set_ (heap_set_ h 0 (.int .u8 x)) 1 (.int .u8 y)) 2 (.int .u8 z)
  simpa [RegB] using this
/-- A round of a range over a string, in whatever world the iterator lies. -/
theorem run_next_at {P : Program} {W : World} {X : Nat} {s : ByteArray} {pos : Nat} (hX : W.heap[X]? = some (.stringIter s pos)) (ty : TypeId) (h : pos < s.size) (ha : (s[pos]'h).toNat < 128) :
    (Instr.next (.pointer (some ⟨X, 0, none⟩)) true ty).run P W = .ok (.tuple #[.bool true, .int .i64 pos, .int .i32 (s[pos]'h).toNat]) (W.putObj X (.stringIter s (pos + 1))) := by
  simp only [Instr.next, getObj, setObj, Sem.run_bind, Sem.run, hX, Result.andThen, h, if_true, decode_ascii s pos h ha]
  simp [goInt, Sem.run, hX, World.putObj]
theorem run_next_none {P : Program} {W : World} {X : Nat} {s : ByteArray} {pos : Nat} (hX : W.heap[X]? = some (.stringIter s pos)) (ty : TypeId) (h : ¬ pos < s.size) :
    (Instr.next (.pointer (some ⟨X, 0, none⟩)) true ty).run P W = .ok (.tuple #[.bool false]) W := by
  simp [Instr.next, getObj, Sem.run, hX, h]
theorem iterPos_of {W : World} {X : Nat} {s : ByteArray} {k : Nat} (h : W.heap[X]? = some (.stringIter s k)) : W.iterPos X = k := by simp [World.iterPos, h]
theorem put_at_ {W : World} {X : Nat} {o : Obj} (o' : Obj) (hX : W.heap[X]? = some o) : (W.putObj X o').heap[X]? = some o' := by
  have := (Array.getElem?_eq_some_iff.1 hX).1
  simp [World.putObj, this]
theorem frmL_letter {op : Int} {l : UInt8} (h : l ∈ frmL op) : l = 114 ∨ l = 110 ∨ l = 112 ∨ l = 116 := by
  unfold frmL at h
  split at h
  · simp at h; simp [h]
  split at h
  · simp at h; rcases h with rfl | rfl <;> simp
  split at h
  · simp at h; simp [h]
  split at h
  · simp at h; rcases h with rfl | rfl <;> simp
  split at h
  · simp at h; simp [h]
  split at h
  · simp at h; rcases h with rfl | rfl <;> simp
  · simp at h
theorem RegB.put {W : World} {B : Nat} {r : Int × Int × Int} (h : RegB W B r) {X : Nat} {o : Obj} (o' : Obj) (hX : W.heap[X]? = some o) (ho : o.isCells = false) : RegB (W.putObj X o') B r :=
  (mod_put_ W X o').heap h (fun e => by have h' : W.heap[B]? = _ := h; rw [e, hX] at h'; cases h'; cases ho)
theorem RegB.zero {W : World} {B : Nat} {r : Int × Int × Int} (h : RegB W B r) {u : Nat} (hu : u < 3) : RegB (W.setCell ⟨B, u, none⟩ (.int .u8 0)) B (regZ r u) := by
  have hu3 : u = 0 ∨ u = 1 ∨ u = 2 := by omega
  rcases hu3 with rfl | rfl | rfl
  · have := heap_set_ h 0 (.int .u8 0); simpa [RegB, regZ] using this
  · have := heap_set_ h 1 (.int .u8 0); simpa [RegB, regZ] using this
  · have := heap_set_ h 2 (.int .u8 0); simpa [RegB, regZ] using this
theorem RegB.at_ {W : World} {B : Nat} {r : Int × Int × Int} (h : RegB W B r) {u : Nat} (hu : u < 3) : W.cell? ⟨B, u, none⟩ = some (.int .u8 (regAt r u)) ∧ W.frozen? ⟨B, u, none⟩ = false := by
  obtain ⟨h0, h1, h2, f0, f1, f2⟩ := h.cells
  have hu3 : u = 0 ∨ u = 1 ∨ u = 2 := by omega
  rcases hu3 with rfl | rfl | rfl
  · exact ⟨h0, f0⟩
  · exact ⟨h1, f1⟩
  · exact ⟨h2, f2⟩
set_option maxHeartbeats 1000000 in
theorem One_any (i : Ins) (h : InsOk i) (W : World) :
    Calls Tryz.prog 274 #[insV i] W fun e w' => e = .returned (.int .i64 (oneE i)) ∧ Below W.heap.size W w' := by
  obtain ⟨op, a, b, c, n⟩ := i
  obtain ⟨g0, g1, g2, g3, g4, g5, g6, g7⟩ := h
  simp only at g0 g1 g2 g3 g4 g5 g6 g7
  unfold insV
  simp only
  have HU := Lib.hid (oneS_used ⟨op, a, b, c, n⟩)
  cases hf : frmB op with
  | false =>
    have HE : Hid (oneE ⟨op, a, b, c, n⟩ = 140) := by rw [Hid, oneE, if_neg (by simp [hf])]
    have HF := Lib.hid hf
    clear hf
    go_enter Tryz.func274, Tryz.ntmps274
    go_wp2_with fail
    refine (Form_any op g0 g1 _).mono ?_; rintro e W1 ⟨rfl, hb1⟩
    rw [HF.out]
    have HB := Lib.hid (((Below.refl W.heap.size W).alloc (Nat.le_refl _) _).trans (hb1.mono (by simp)))
    clear hb1
    go_wp2_with fail
    go_ret
    exact ⟨by rw [HE.out]; rfl, HB.out⟩
  | true =>
    have HE : Hid (oneE ⟨op, a, b, c, n⟩ = if (oneS ⟨op, a, b, c, n⟩ (frmL op).length).1 = (0, 0, 0) ∧ (oneS ⟨op, a, b, c, n⟩ (frmL op).length).2.2 = 0 then 0 else 141) := by rw [Hid, oneE, if_pos hf]
    have HF := Lib.hid hf
    clear hf
    go_enter Tryz.func274, Tryz.ntmps274
    go_wp2_with fail
    refine (Form_any op g0 g1 _).mono ?_; rintro e W1 ⟨rfl, hb1⟩
    rw [HF.out]
    have HK : Hid (InsAt W1 W.heap.size op a b c n) := (Mod.of_same (S := fun _ => False) hb1).heap (World.alloc_heap_new W _) (by simp)
    have HB := Lib.hid (((Below.refl W.heap.size W).alloc (Nat.le_refl _) _).trans (hb1.mono (by simp)))
    have hz1 := hb1.size
    have hz1' : W.heap.size ≤ W1.heap.size := by simp at hz1; omega
    clear hb1
    obtain ⟨q0, q1, q2, q3, q4⟩ := HK.out.cells
    go_wp2_with fail
    go_cut [5, 6] from 18 (fun r5 n6 wx => ∃ R, r5 = .pointer (some ⟨R, 0, none⟩) ∧ n6 = .int .i64 n ∧ W1.heap.size ≤ R ∧ Hid (RegB wx R (a, b, c)) ∧ Hid (Below W1.heap.size W1 wx))
    case first =>
      rename_i J K' hJ hK
      go_region_held3 (fun w' => w'.cell? ⟨W.heap.size, 0, none⟩ = some (.int .u8 op) ∧ w'.cell? ⟨W.heap.size, 1, none⟩ = some (.int .u8 a) ∧ w'.cell? ⟨W.heap.size, 2, none⟩ = some (.int .u8 b) ∧ w'.cell? ⟨W.heap.size, 3, none⟩ = some (.int .u8 c) ∧ w'.cell? ⟨W.heap.size, 4, none⟩ = some (.int .i64 n))
        (first | (with_reducible exact HK2.out.cells) | (with_reducible exact HK.out.cells) | (with_reducible exact (HK2.out.alloc _).cells) | (with_reducible exact (HK.out.below (below_set_ (below_set_ (below_set_ HY1.out (Nat.le_refl _) _) (Nat.le_refl _) _) (Nat.le_refl _) _)).cells) | go_keep)
        ((first
          | (go_at_call 247; refine (registers_any op a b c n _).mono ?_; rintro e y1 ⟨rfl, hb1⟩; have HY1 : Hid (Below W1.heap.size W1 y1) := below_step_ (by repeat (first | exact Below.refl _ _ | refine below_drew_ ?_ | refine below_alloc_ ?_ _)) hb1; have HK2 := Lib.hid (HK.out.below HY1.out); (try have HA1 := Lib.hid (RegB.below (by first | exact RegB.new _ _ _ _) hb1)); clear hb1; (try obtain ⟨p0, p1, p2, f0, f1, f2⟩ := HA1.out.cells))))
      all_goals (change K' _ _; refine hK _ _ (Met.intro (hJ _ _ ?_)); (repeat apply Exists.intro); refine ⟨?_, rfl⟩)
      all_goals (first
        | (with_reducible refine ⟨_, rfl, rfl, ?_, Lib.hid (RegB.new _ _ _ _), Lib.hid (below_alloc_ HY1.out _)⟩; exact HY1.out.size)
        | (with_reducible refine ⟨_, rfl, rfl, Nat.le_refl _, Lib.hid (HA1.out.set _ _ _), Lib.hid (below_set_ (below_set_ (below_set_ HY1.out (Nat.le_refl _) _) (Nat.le_refl _) _) (Nat.le_refl _) _)⟩))
    case rest =>
      obtain ⟨R, rfl, rfl, hR, HR, HW⟩ := hcut
      clear HK q0 q1 q2 q3 q4
      go_wp2_with fail
      generalize hX : wc.heap.size = X at *
      have hX1 : W1.heap.size ≤ X := by have := HW.out.size; omega
      have HIT : Hid ((wc.iter (frmS op) 0).heap[X]? = some (.stringIter (frmS op) 0)) := by rw [← hX]; exact World.iter_heap _ _ _
      have hbi : Below wc.heap.size wc (wc.iter (frmS op) 0) := (Below.refl _ _).alloc (Nat.le_refl _) _
      have HR0 := Lib.hid (HR.out.below hbi)
      have HW0 := Lib.hid (below_step_ HW.out hbi)
      have hRX : ¬ R = X := fun e => by have h1 := (Array.getElem?_eq_some_iff.1 (show wc.heap[R]? = _ from HR.out)).1; omega
      have HRX := Lib.hid hRX
      clear hbi HR HW hX hRX
      go_loopw [6, 7] (fun n6 u7 wr => ∃ k : Nat, k ≤ (frmL op).length ∧ n6 = .int .i64 (oneS ⟨op, a, b, c, n⟩ k).2.2 ∧ u7 = .int .i64 ((oneS ⟨op, a, b, c, n⟩ k).2.1 : Nat) ∧ Hid (wr.heap[X]? = some (.stringIter (frmS op) k)) ∧ Hid (RegB wr R (oneS ⟨op, a, b, c, n⟩ k).1) ∧ Hid (Below W1.heap.size W1 wr)) (fun _ _ wr => (frmL op).length - wr.iterPos X)
      case atStart => exact ⟨0, Nat.zero_le _, by simp [oneS], by simp [oneS], HIT, by simpa [oneS] using HR0, HW0⟩
      case round =>
        obtain ⟨k, hk, rfl, rfl, HI, HRR, HWW⟩ := hrel
        have hsz : (frmS op).size = (frmL op).length := by simp [frmS, ByteArray.size]
        have hXW : X < wr.heap.size := (Array.getElem?_eq_some_iff.1 HI.out).1
        by_cases hlt : k < (frmL op).length
        · have hu3 : (oneS ⟨op, a, b, c, n⟩ k).2.1 < 3 := by have := HU.out k hk; have := frmL_len op; omega
          have hel : (frmS op)[k]'(by omega) = (frmL op)[k] := by simp [frmS]; rfl
          have hl4 := frmL_letter (List.getElem_mem hlt)
          have HST := Lib.hid (oneS_succ (i := ⟨op, a, b, c, n⟩) hlt)
          have hnx := fun ty => run_next_at (P := Tryz.prog) HI.out ty (by omega) (by rw [hel]; rcases hl4 with h | h | h | h <;> rw [h] <;> decide)
          rw [hel] at hnx
          have HIP : Hid ((wr.putObj X (.stringIter (frmS op) (k + 1))).heap[X]? = some (.stringIter (frmS op) (k + 1))) := put_at_ _ HI.out
          have HRP := Lib.hid (HRR.out.put (.stringIter (frmS op) (k + 1)) HI.out rfl)
          have HMP := Lib.hid (mod_put_ wr X (.stringIter (frmS op) (k + 1)))
          clear hel
          generalize (frmL op)[k] = l at *
          generalize oneS ⟨op, a, b, c, n⟩ k = s1 at *
          obtain ⟨r, u, m⟩ := s1
          simp only at hu3
          have hRc := HRP.out.at_ hu3
          have HBP : Hid (Below W1.heap.size W1 (wr.putObj X (.stringIter (frmS op) (k + 1)))) := HWW.out.trans (HMP.out.below HWW.out.size (fun q hq e => by omega))
          have hXR : ¬ X = R := fun e => HRX.out e.symm
          have HXR := Lib.hid hXR
          clear hXR
          rcases hl4 with rfl | rfl | rfl | rfl
          · by_cases h8 : regAt r u < 8
            · have h8d : decide (regAt r u < 8) = true := by simpa using h8
              have HN : Hid (oneS ⟨op, a, b, c, n⟩ (k + 1) = (regZ r u, u + 1, m)) := by rw [Hid, HST.out]; simp [oneStep, h8]
              have HZ := Lib.hid (HRP.out.zero hu3)
              have HMZ := Lib.hid (mod_set_ (wr.putObj X (.stringIter (frmS op) (k + 1))) R u (.int .u8 0))
              have HIZ : Hid (((wr.putObj X (.stringIter (frmS op) (k + 1))).setCell ⟨R, u, none⟩ (.int .u8 0)).heap[X]? = some (.stringIter (frmS op) (k + 1))) := HMZ.out.heap HIP.out (fun e => HXR.out e)
              have HBZ := Lib.hid (below_set_ HBP.out hR (.int .u8 0) (p := ⟨R, u, none⟩))
              go_wp2_with fail
              exact ⟨⟨k + 1, by omega, by rw [HN.out], by rw [HN.out]; simp, HIZ.out, by rw [Hid, HN.out]; exact HZ.out, HBZ.out⟩, by rw [iterPos_of HI.out, iterPos_of (HIZ.out)]; omega⟩
            · have h8d : decide (regAt r u < 8) = false := by simpa using h8
              have HN : Hid (oneS ⟨op, a, b, c, n⟩ (k + 1) = (r, u, m)) := by rw [Hid, HST.out]; simp [oneStep, h8]
              go_wp2_with fail
              exact ⟨⟨k + 1, by omega, by rw [HN.out], by rw [HN.out], HIP.out, by rw [Hid, HN.out]; exact HRP.out, HBP.out⟩, by rw [iterPos_of HI.out, iterPos_of (HIP.out)]; omega⟩
          · have HN : Hid (oneS ⟨op, a, b, c, n⟩ (k + 1) = (r, u, 0)) := by rw [Hid, HST.out]; simp [oneStep]
            go_wp2_with fail
            exact ⟨⟨k + 1, by omega, by rw [HN.out], by rw [HN.out], HIP.out, by rw [Hid, HN.out]; exact HRP.out, HBP.out⟩, by rw [iterPos_of HI.out, iterPos_of (HIP.out)]; omega⟩
          · by_cases h0 : 0 ≤ m
            · by_cases h1 : m < 16
              · have h0d : decide (0 ≤ m) = true := by simpa using h0
                have h1d : decide (m < 16) = true := by simpa using h1
                have HN : Hid (oneS ⟨op, a, b, c, n⟩ (k + 1) = (r, u, 0)) := by rw [Hid, HST.out]; simp [oneStep, h0, h1]
                go_wp2_with fail
                exact ⟨⟨k + 1, by omega, by rw [HN.out], by rw [HN.out], HIP.out, by rw [Hid, HN.out]; exact HRP.out, HBP.out⟩, by rw [iterPos_of HI.out, iterPos_of (HIP.out)]; omega⟩
              · have h0d : decide (0 ≤ m) = true := by simpa using h0
                have h1d : decide (m < 16) = false := by simpa using h1
                have HN : Hid (oneS ⟨op, a, b, c, n⟩ (k + 1) = (r, u, m)) := by rw [Hid, HST.out]; simp [oneStep, h0, h1]
                go_wp2_with fail
                exact ⟨⟨k + 1, by omega, by rw [HN.out], by rw [HN.out], HIP.out, by rw [Hid, HN.out]; exact HRP.out, HBP.out⟩, by rw [iterPos_of HI.out, iterPos_of (HIP.out)]; omega⟩
            · have h0d : decide (0 ≤ m) = false := by simpa using h0
              have HN : Hid (oneS ⟨op, a, b, c, n⟩ (k + 1) = (r, u, m)) := by rw [Hid, HST.out]; simp [oneStep, h0]
              go_wp2_with fail
              exact ⟨⟨k + 1, by omega, by rw [HN.out], by rw [HN.out], HIP.out, by rw [Hid, HN.out]; exact HRP.out, HBP.out⟩, by rw [iterPos_of HI.out, iterPos_of (HIP.out)]; omega⟩
          · by_cases h0 : 0 ≤ m
            · by_cases h1 : m < 256
              · have h0d : decide (0 ≤ m) = true := by simpa using h0
                have h1d : decide (m < 256) = true := by simpa using h1
                have HN : Hid (oneS ⟨op, a, b, c, n⟩ (k + 1) = (r, u, 0)) := by rw [Hid, HST.out]; simp [oneStep, h0, h1]
                go_wp2_with fail
                exact ⟨⟨k + 1, by omega, by rw [HN.out], by rw [HN.out], HIP.out, by rw [Hid, HN.out]; exact HRP.out, HBP.out⟩, by rw [iterPos_of HI.out, iterPos_of (HIP.out)]; omega⟩
              · have h0d : decide (0 ≤ m) = true := by simpa using h0
                have h1d : decide (m < 256) = false := by simpa using h1
                have HN : Hid (oneS ⟨op, a, b, c, n⟩ (k + 1) = (r, u, m)) := by rw [Hid, HST.out]; simp [oneStep, h0, h1]
                go_wp2_with fail
                exact ⟨⟨k + 1, by omega, by rw [HN.out], by rw [HN.out], HIP.out, by rw [Hid, HN.out]; exact HRP.out, HBP.out⟩, by rw [iterPos_of HI.out, iterPos_of (HIP.out)]; omega⟩
            · have h0d : decide (0 ≤ m) = false := by simpa using h0
              have HN : Hid (oneS ⟨op, a, b, c, n⟩ (k + 1) = (r, u, m)) := by rw [Hid, HST.out]; simp [oneStep, h0]
              go_wp2_with fail
              exact ⟨⟨k + 1, by omega, by rw [HN.out], by rw [HN.out], HIP.out, by rw [Hid, HN.out]; exact HRP.out, HBP.out⟩, by rw [iterPos_of HI.out, iterPos_of (HIP.out)]; omega⟩
        · obtain rfl : k = (frmL op).length := by omega
          have hnx := fun ty => run_next_none (P := Tryz.prog) HI.out ty (by omega)
          have HWF := Lib.hid (HB.out.trans (HWW.out.mono hz1'))
          clear hsz hlt
          generalize oneS ⟨op, a, b, c, n⟩ (frmL op).length = s1 at *
          obtain ⟨⟨x, y, z⟩, u, m⟩ := s1
          obtain ⟨r0, r1, r2, -, -, -⟩ := HRR.out.cells
          by_cases hz : x = 0 ∧ y = 0 ∧ z = 0
          · have hq : ∀ w, (Op.equalIn 10000 378 (.agg #[.int .u8 x, .int .u8 y, .int .u8 z]) (.agg #[.int .u8 0, .int .u8 0, .int .u8 0])).run Tryz.prog w = .ok true w := fun w => by rw [eq3_u8, decide_eq_true hz]
            by_cases hm : m = 0
            · have HF : Hid (oneE ⟨op, a, b, c, n⟩ = 0) := by rw [Hid, HE.out, if_pos ⟨by simp [hz], hm⟩]
              have hmb : (m != 0) = false := by simpa using hm
              clear hz hm
              go_wp2_with fail
              go_ret
              exact ⟨by rw [HF.out]; rfl, HWF.out⟩
            · have HF : Hid (oneE ⟨op, a, b, c, n⟩ = 141) := by rw [Hid, HE.out, if_neg (fun h => hm h.2)]
              have hmb : (m != 0) = true := by simpa using hm
              clear hz hm
              go_wp2_with fail
              go_ret
              exact ⟨by rw [HF.out]; rfl, HWF.out⟩
          · have hq : ∀ w, (Op.equalIn 10000 378 (.agg #[.int .u8 x, .int .u8 y, .int .u8 z]) (.agg #[.int .u8 0, .int .u8 0, .int .u8 0])).run Tryz.prog w = .ok false w := fun w => by rw [eq3_u8, decide_eq_false hz]
            have HF : Hid (oneE ⟨op, a, b, c, n⟩ = 141) := by rw [Hid, HE.out, if_neg (fun h => hz (by simpa using h.1))]
            clear hz
            go_wp2_with fail
            go_ret
            exact ⟨by rw [HF.out]; rfl, HWF.out⟩
end Eng
end Go.Proofs.YtdfmgneicdpjmaaGreat

/- code.Target, Goes. -/
namespace Go.Proofs.YtdfmgneicdpjmaaGreat
open Go.RowKit Go.Shelf
attribute [local go_sem] Oper.semAt_some
set_option linter.unusedVariables false
set_option linter.unusedSimpArgs false
set_option maxRecDepth 100000
namespace Eng
open Resp

def jumpB (op : Int) : Bool := decide (op = 9 ∨ op = 10 ∨ op = 11)
def tgtB (i : Ins) : Bool := decide (oneE i = 0) && jumpB i.op
def tgtV (i : Ins) : Int := if tgtB i = true then i.n else 0
def goesB (i : Ins) : Bool := decide (oneE i = 0) && (decide (¬ i.op = 1) && (decide (¬ i.op = 2) && decide (¬ i.op = 9)))
theorem new_ins {W W1 : World} {op a b c n : Int} (hb1 : Below (W.alloc (.cells #[.int .u8 op, .int .u8 a, .int .u8 b, .int .u8 c, .int .i64 n] 169)).heap.size (W.alloc (.cells #[.int .u8 op, .int .u8 a, .int .u8 b, .int .u8 c, .int .i64 n] 169)) W1) : InsAt W1 W.heap.size op a b c n ∧ Below W.heap.size W W1 :=
  ⟨(Mod.of_same (S := fun _ => False) hb1).heap (World.alloc_heap_new W _) (by simp), ((Below.refl W.heap.size W).alloc (Nat.le_refl _) _).trans (hb1.mono (by simp))⟩

set_option maxHeartbeats 1000000 in
theorem Target_any (i : Ins) (h : InsOk i) (W : World) :
    Calls Tryz.prog 275 #[insV i] W fun e w' => e = .returned (.tuple #[.int .i64 (tgtV i), .bool (tgtB i)]) ∧ Below W.heap.size W w' := by
  have HO := fun W => Lib.hid (One_any i h W)
  obtain ⟨op, a, b, c, n⟩ := i
  unfold insV at *
  simp only at *
  by_cases h0 : oneE ⟨op, a, b, c, n⟩ = 0
  · have H0 := Lib.hid h0
    by_cases hj : op = 9 ∨ op = 10 ∨ op = 11
    · have HT : Hid (tgtB ⟨op, a, b, c, n⟩ = true) := by rw [Hid, tgtB, decide_eq_true h0, jumpB, decide_eq_true hj]; rfl
      have HV : Hid (tgtV ⟨op, a, b, c, n⟩ = n) := by rw [Hid, tgtV, if_pos HT.out]
      rw [HT.out, HV.out]
      clear h0 h
      rcases hj with rfl | rfl | rfl
      · go_enter Tryz.func275, Tryz.ntmps275
        go_wp2_with fail
        refine (HO _).out.mono ?_; rintro e W1 ⟨rfl, hb1⟩
        rw [H0.out]
        obtain ⟨hk, hb⟩ := new_ins hb1
        obtain ⟨q0, q1, q2, q3, q4⟩ := hk.cells
        have HB := Lib.hid hb
        clear hb1 hk hb
        go_wp2_with fail
        go_ret2
        exact ⟨rfl, HB.out⟩
      · go_enter Tryz.func275, Tryz.ntmps275
        go_wp2_with fail
        refine (HO _).out.mono ?_; rintro e W1 ⟨rfl, hb1⟩
        rw [H0.out]
        obtain ⟨hk, hb⟩ := new_ins hb1
        obtain ⟨q0, q1, q2, q3, q4⟩ := hk.cells
        have HB := Lib.hid hb
        clear hb1 hk hb
        go_wp2_with fail
        go_ret2
        exact ⟨rfl, HB.out⟩
      · go_enter Tryz.func275, Tryz.ntmps275
        go_wp2_with fail
        refine (HO _).out.mono ?_; rintro e W1 ⟨rfl, hb1⟩
        rw [H0.out]
        obtain ⟨hk, hb⟩ := new_ins hb1
        obtain ⟨q0, q1, q2, q3, q4⟩ := hk.cells
        have HB := Lib.hid hb
        clear hb1 hk hb
        go_wp2_with fail
        go_ret2
        exact ⟨rfl, HB.out⟩
    · have HT : Hid (tgtB ⟨op, a, b, c, n⟩ = false) := by rw [Hid, tgtB, decide_eq_true h0, jumpB, decide_eq_false hj]; rfl
      have HV : Hid (tgtV ⟨op, a, b, c, n⟩ = 0) := by rw [Hid, tgtV, if_neg (by rw [HT.out]; decide)]
      rw [HT.out, HV.out]
      have j9 : (op != 9) = true := by rw [bne_iff_ne]; omega
      have j10 : (op != 10) = true := by rw [bne_iff_ne]; omega
      have j11 : (op != 11) = true := by rw [bne_iff_ne]; omega
      clear h0 h hj
      go_enter Tryz.func275, Tryz.ntmps275
      go_wp2_with fail
      refine (HO _).out.mono ?_; rintro e W1 ⟨rfl, hb1⟩
      rw [H0.out]
      obtain ⟨hk, hb⟩ := new_ins hb1
      obtain ⟨q0, q1, q2, q3, q4⟩ := hk.cells
      have HB := Lib.hid hb
      clear hb1 hk hb
      go_wp2_with fail
      go_ret2
      exact ⟨rfl, HB.out⟩
  · have HT : Hid (tgtB ⟨op, a, b, c, n⟩ = false) := by rw [Hid, tgtB, decide_eq_false h0]; rfl
    have HV : Hid (tgtV ⟨op, a, b, c, n⟩ = 0) := by rw [Hid, tgtV, if_neg (by rw [HT.out]; decide)]
    rw [HT.out, HV.out]
    have h0b : (oneE ⟨op, a, b, c, n⟩ != 0) = true := by rw [bne_iff_ne]; exact h0
    have H0 : Hid (oneE ⟨op, a, b, c, n⟩ = oneE ⟨op, a, b, c, n⟩) := rfl
    clear h0 h
    generalize oneE ⟨op, a, b, c, n⟩ = oe at *
    go_enter Tryz.func275, Tryz.ntmps275
    go_wp2_with fail
    refine (HO _).out.mono ?_; rintro e W1 ⟨rfl, hb1⟩
    obtain ⟨hk, hb⟩ := new_ins hb1
    obtain ⟨q0, q1, q2, q3, q4⟩ := hk.cells
    have HB := Lib.hid hb
    clear hb1 hk hb
    go_wp2_with fail
    go_ret2
    exact ⟨rfl, HB.out⟩
set_option maxHeartbeats 1000000 in
theorem Goes_any (i : Ins) (h : InsOk i) (W : World) :
    Calls Tryz.prog 276 #[insV i] W fun e w' => e = .returned (.bool (goesB i)) ∧ Below W.heap.size W w' := by
  have HO := fun W => Lib.hid (One_any i h W)
  obtain ⟨op, a, b, c, n⟩ := i
  unfold insV at *
  simp only at *
  by_cases h0 : oneE ⟨op, a, b, c, n⟩ = 0
  · have H0 := Lib.hid h0
    by_cases j1 : op = 1
    · have HG : Hid (goesB ⟨op, a, b, c, n⟩ = false) := by rw [Hid, goesB]; simp [j1]
      rw [HG.out]
      clear h0 h
      subst j1
      go_enter Tryz.func276, Tryz.ntmps276
      go_wp2_with fail
      refine (HO _).out.mono ?_; rintro e W1 ⟨rfl, hb1⟩
      rw [H0.out]
      obtain ⟨hk, hb⟩ := new_ins hb1
      obtain ⟨q0, q1, q2, q3, q4⟩ := hk.cells
      have HB := Lib.hid hb
      clear hb1 hk hb
      go_wp2_with fail
      go_ret
      exact ⟨rfl, HB.out⟩
    · by_cases j2 : op = 2
      · have HG : Hid (goesB ⟨op, a, b, c, n⟩ = false) := by rw [Hid, goesB]; simp [j2]
        rw [HG.out]
        clear h0 h
        subst j2
        go_enter Tryz.func276, Tryz.ntmps276
        go_wp2_with fail
        refine (HO _).out.mono ?_; rintro e W1 ⟨rfl, hb1⟩
        rw [H0.out]
        obtain ⟨hk, hb⟩ := new_ins hb1
        obtain ⟨q0, q1, q2, q3, q4⟩ := hk.cells
        have HB := Lib.hid hb
        clear hb1 hk hb
        go_wp2_with fail
        go_ret
        exact ⟨rfl, HB.out⟩
      · by_cases j9 : op = 9
        · have HG : Hid (goesB ⟨op, a, b, c, n⟩ = false) := by rw [Hid, goesB]; simp [j9]
          rw [HG.out]
          clear h0 h
          subst j9
          go_enter Tryz.func276, Tryz.ntmps276
          go_wp2_with fail
          refine (HO _).out.mono ?_; rintro e W1 ⟨rfl, hb1⟩
          rw [H0.out]
          obtain ⟨hk, hb⟩ := new_ins hb1
          obtain ⟨q0, q1, q2, q3, q4⟩ := hk.cells
          have HB := Lib.hid hb
          clear hb1 hk hb
          go_wp2_with fail
          go_ret
          exact ⟨rfl, HB.out⟩
        · have HG : Hid (goesB ⟨op, a, b, c, n⟩ = true) := by rw [Hid, goesB]; simp [h0, j1, j2, j9]
          rw [HG.out]
          have b1 : (op != 1) = true := by rw [bne_iff_ne]; omega
          have b2 : (op != 2) = true := by rw [bne_iff_ne]; omega
          have b9 : (op != 9) = true := by rw [bne_iff_ne]; omega
          clear h0 h j1 j2 j9
          go_enter Tryz.func276, Tryz.ntmps276
          go_wp2_with fail
          refine (HO _).out.mono ?_; rintro e W1 ⟨rfl, hb1⟩
          rw [H0.out]
          obtain ⟨hk, hb⟩ := new_ins hb1
          obtain ⟨q0, q1, q2, q3, q4⟩ := hk.cells
          have HB := Lib.hid hb
          clear hb1 hk hb
          go_wp2_with fail
          go_ret
          exact ⟨rfl, HB.out⟩
  · have HG : Hid (goesB ⟨op, a, b, c, n⟩ = false) := by rw [Hid, goesB]; simp [h0]
    rw [HG.out]
    have h0b : (oneE ⟨op, a, b, c, n⟩ == 0) = false := by rw [beq_eq_false_iff_ne]; exact h0
    clear h0 h
    generalize oneE ⟨op, a, b, c, n⟩ = oe at *
    go_enter Tryz.func276, Tryz.ntmps276
    go_wp2_with fail
    refine (HO _).out.mono ?_; rintro e W1 ⟨rfl, hb1⟩
    obtain ⟨hk, hb⟩ := new_ins hb1
    obtain ⟨q0, q1, q2, q3, q4⟩ := hk.cells
    have HB := Lib.hid hb
    clear hb1 hk hb
    go_wp2_with fail
    go_ret
    exact ⟨rfl, HB.out⟩
end Eng
end Go.Proofs.YtdfmgneicdpjmaaGreat
