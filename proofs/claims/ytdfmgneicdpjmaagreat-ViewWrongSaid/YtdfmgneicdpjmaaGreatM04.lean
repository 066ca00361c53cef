import Derived.Test.YtdfmgneicdpjmaaGreatM03
import Derived.Laws.OwnMore
/- Owned lists of fields; response.fields at Response{Number: n, Code: 341}. -/
namespace Go.Proofs.YtdfmgneicdpjmaaGreat
open Go.RowKit Go.Shelf
set_option linter.unusedVariables false
set_option linter.unusedSimpArgs false
set_option maxRecDepth 100000
namespace Resp

def fCells (fs : List F) : List Value := fs.flatMap fun f => [.int .i64 f.1, f.2.1]
theorem fCells_length (fs : List F) : (fCells fs).length = fs.length * 2 := by
  induction fs with
  | nil => rfl
  | cons f fs ih => simp [fCells] at ih ⊢; omega
theorem fCells_at : ∀ (l : List F) (i : Nat), i < l.length → (fCells l)[i * 2]? = some (.int .i64 (l[i]?.getD fNo).1) ∧ (fCells l)[i * 2 + 1]? = some (l[i]?.getD fNo).2.1
  | [], i, h => by simp at h
  | x :: l, 0, _ => by simp [fCells]
  | x :: l, i + 1, h => by
    have := fCells_at l i (by simpa using h)
    have e1 : (i + 1) * 2 = i * 2 + 2 := by omega
    rw [e1]
    simpa [fCells] using this
def TenAt (W : World) (g : Nat) : Prop := W.heap[g]? = some (.cells #[.int .i64 0, .slice none 0 0, .int .i64 0, .slice none 0 0, .int .i64 0, .slice none 0 0, .int .i64 0, .slice none 0 0, .int .i64 0, .slice none 0 0] 357)
theorem TenAt.facts {W : World} {g : Nat} (h : TenAt W g) : W.cell? ⟨g, 0, none⟩ = some (.int .i64 0) ∧ W.cell? ⟨g, 1, none⟩ = some (.slice none 0 0) ∧ W.cell? ⟨g, 2, none⟩ = some (.int .i64 0) ∧ W.cell? ⟨g, 3, none⟩ = some (.slice none 0 0) ∧ W.cell? ⟨g, 4, none⟩ = some (.int .i64 0) ∧ W.cell? ⟨g, 5, none⟩ = some (.slice none 0 0) ∧ W.cell? ⟨g, 6, none⟩ = some (.int .i64 0) ∧ W.cell? ⟨g, 7, none⟩ = some (.slice none 0 0) ∧ W.cell? ⟨g, 8, none⟩ = some (.int .i64 0) ∧ W.cell? ⟨g, 9, none⟩ = some (.slice none 0 0) ∧ W.frozen? ⟨g, 0, none⟩ = false ∧ W.frozen? ⟨g, 1, none⟩ = false ∧ W.frozen? ⟨g, 2, none⟩ = false ∧ W.frozen? ⟨g, 3, none⟩ = false ∧ W.frozen? ⟨g, 4, none⟩ = false ∧ W.frozen? ⟨g, 5, none⟩ = false ∧ W.frozen? ⟨g, 6, none⟩ = false ∧ W.frozen? ⟨g, 7, none⟩ = false ∧ W.frozen? ⟨g, 8, none⟩ = false ∧ W.frozen? ⟨g, 9, none⟩ = false := by
  have h' : W.heap[g]? = _ := h
  refine ⟨?_, ?_, ?_, ?_, ?_, ?_, ?_, ?_, ?_, ?_, ?_, ?_, ?_, ?_, ?_, ?_, ?_, ?_, ?_, ?_⟩ <;> first | simp [World.cell?, h'] | simp [World.frozen?, h']
theorem TenAt.new (W : World) : TenAt (W.alloc (.cells #[.int .i64 0, .slice none 0 0, .int .i64 0, .slice none 0 0, .int .i64 0, .slice none 0 0, .int .i64 0, .slice none 0 0, .int .i64 0, .slice none 0 0] 357)) W.heap.size := World.alloc_heap_new W _
theorem TenAt.below {W W' : World} {g : Nat} (h : TenAt W g) (hb : Below W.heap.size W W') : TenAt W' g := (hb.block _ (Array.getElem?_eq_some_iff.1 h).1).trans h
theorem infoTen : (Tryz.prog.info? 357).map (·.size) = some 10 := by kernel_rfl
theorem TenAt.store {W : World} {g : Nat} (h : TenAt W g) : (storeCells ⟨g, 0, none⟩ [.int .i64 9, .slice none 0 0, .int .i64 10, .slice none 0 0, .int .i64 11, .slice none 0 0, .int .i64 12, .slice none 0 0, .int .i64 13, .slice none 0 0] 0).run Tryz.prog W = .ok () (W.setRow g #[.int .i64 9, .slice none 0 0, .int .i64 10, .slice none 0 0, .int .i64 11, .slice none 0 0, .int .i64 12, .slice none 0 0, .int .i64 13, .slice none 0 0]) := by
  have h2 := run_storeVar_row (P := Tryz.prog) W g 357 357 #[.int .i64 0, .slice none 0 0, .int .i64 0, .slice none 0 0, .int .i64 0, .slice none 0 0, .int .i64 0, .slice none 0 0, .int .i64 0, .slice none 0 0] #[.int .i64 9, .slice none 0 0, .int .i64 10, .slice none 0 0, .int .i64 11, .slice none 0 0, .int .i64 12, .slice none 0 0, .int .i64 13, .slice none 0 0] h infoTen rfl (by simp [Value.oneCell'])
  have h3 := infoTen
  cases hq : Tryz.prog.info? 357 with
  | none => simp [hq] at h3
  | some i =>
    have hs : i.size = 10 := by simpa [hq] using h3
    simpa [storeVar, sizeOf, typeInfo, hq, Value.cells, hs] using h2
theorem below_row_ {a w : World} (h : Below a.heap.size a w) {g : Nat} (hp : a.heap.size ≤ g) (cs : Array Value) : Below a.heap.size a (w.setRow g cs) := by
  refine ⟨h.os, h.tape, h.output, by simpa [World.setRow] using h.size, fun k hk => ?_⟩
  rw [← h.block k hk]
  show (w.heap.modify g _)[k]? = _
  rw [Array.getElem?_modify, if_neg (by omega)]
def NineAt (W : World) (g : Nat) : Prop := W.heap[g]? = some (.cells #[.int .i64 9, .slice none 0 0, .int .i64 10, .slice none 0 0, .int .i64 11, .slice none 0 0, .int .i64 12, .slice none 0 0, .int .i64 13, .slice none 0 0] 357)
theorem NineAt.facts {W : World} {g : Nat} (h : NineAt W g) : W.cell? ⟨g, 0, none⟩ = some (.int .i64 9) ∧ W.cell? ⟨g, 1, none⟩ = some (.slice none 0 0) ∧ W.cell? ⟨g, 2, none⟩ = some (.int .i64 10) ∧ W.cell? ⟨g, 3, none⟩ = some (.slice none 0 0) ∧ W.cell? ⟨g, 4, none⟩ = some (.int .i64 11) ∧ W.cell? ⟨g, 5, none⟩ = some (.slice none 0 0) ∧ W.cell? ⟨g, 6, none⟩ = some (.int .i64 12) ∧ W.cell? ⟨g, 7, none⟩ = some (.slice none 0 0) ∧ W.cell? ⟨g, 8, none⟩ = some (.int .i64 13) ∧ W.cell? ⟨g, 9, none⟩ = some (.slice none 0 0) := by
  have h' : W.heap[g]? = _ := h
  refine ⟨?_, ?_, ?_, ?_, ?_, ?_, ?_, ?_, ?_, ?_⟩ <;> simp [World.cell?, h']
theorem NineAt.new (W : World) : NineAt (W.alloc (.cells #[.int .i64 9, .slice none 0 0, .int .i64 10, .slice none 0 0, .int .i64 11, .slice none 0 0, .int .i64 12, .slice none 0 0, .int .i64 13, .slice none 0 0] 357)) W.heap.size := World.alloc_heap_new W _
theorem TenAt.nine {W : World} {g : Nat} (h : TenAt W g) : NineAt ((((((((((W.setCell ⟨g, 0, none⟩ (.int .i64 9)).setCell ⟨g, 1, none⟩ (.slice none 0 0)).setCell ⟨g, 2, none⟩ (.int .i64 10)).setCell ⟨g, 3, none⟩ (.slice none 0 0)).setCell ⟨g, 4, none⟩ (.int .i64 11)).setCell ⟨g, 5, none⟩ (.slice none 0 0)).setCell ⟨g, 6, none⟩ (.int .i64 12)).setCell ⟨g, 7, none⟩ (.slice none 0 0)).setCell ⟨g, 8, none⟩ (.int .i64 13)).setCell ⟨g, 9, none⟩ (.slice none 0 0)) g := heap_set_ (heap_set_ (heap_set_ (heap_set_ (heap_set_ (heap_set_ (heap_set_ (heap_set_ (heap_set_ (heap_set_ (h) 0 _) 1 _) 2 _) 3 _) 4 _) 5 _) 6 _) 7 _) 8 _) 9 _
theorem below_set_ {a w : World} (h : Below a.heap.size a w) {p : Addr} (hp : a.heap.size ≤ p.block) (v : Value) : Below a.heap.size a (w.setCell p v) := h.setCell hp v
theorem numBytes_341 : numBytes 341 = [248, 1, 85] := by
  have h : numLen 341 = 2 := by rw [numLen_pos (by omega), show 341 / 256 = 1 from rfl, numLen_pos (by omega), show 1 / 256 = 0 from rfl, numLen_zero]
  rw [numBytes, if_neg (by omega), h]
  rfl
theorem infoField2 : (Tryz.prog.info? 141).map (fun i => (i.zero, i.size, i.bytes)) = some (some (.agg #[.int .i64 0, .slice none 0 0]), 2, 32) := by kernel_rfl
theorem news_two_ {W : World} {b : Nat} {x y : Value} (h : W.cell? ⟨b, 0, none⟩ = some x) (h' : W.cell? ⟨b, 1, none⟩ = some y) (j : Nat) (u : Value) (hj : [x, y][j]? = some u) : W.cell? ((⟨b, 0, none⟩ : Addr).add j) = some u := by
  rcases j with _ | _ | j
  · have e : x = u := by simpa using hj
    subst e
    simpa [Addr.add] using h
  · have e : y = u := by simpa using hj
    subst e
    simpa [Addr.add] using h'
  · simp at hj
theorem owns_keep_ {W W' : World} {base base2 : Nat} {e e2 : TypeId} {size size2 : Nat} {v v2 : Value} {n n2 : Nat} {xs xs2 : List Value} (h : W.ownsRow base e size v n xs) (h2 : W.ownsRow base2 e2 size2 v2 n2 xs2) (hm : Mod (fun k => some k = v2.ownBlock) W W') (ht : ¬ e2 = e) : W'.ownsRow base e size v n xs := by
  refine ownsRow_mod h hm (fun g hg => ?_)
  rcases h.2 with ⟨rfl, _⟩ | ⟨g', cap, cur, rfl, hb, hgg, _⟩
  · cases hg
  · cases hg; exact own_other_ h2 hgg ht
theorem owns_form_pos_ {W : World} {base : Nat} {e : TypeId} {size : Nat} {v : Value} {k : Nat} {xs : List Value} (h : W.ownsRow base e size v k xs) (hk : 0 < k) : ∃ g c, v = .slice (some ⟨g, 0, none⟩) k c := by
  rcases h.2 with ⟨rfl, rfl⟩ | ⟨g', cap, cur, rfl, hb, hgg, _⟩
  · exact absurd hk (Nat.lt_irrefl _)
  · exact ⟨_, _, rfl⟩
def FieldsOwn (W : World) (base : Nat) (v : Value) (fs : List F) : Prop :=
  W.ownsRow base 141 2 v fs.length (fCells fs) ∧ ∀ f ∈ fs, W.ownsRow base 5 1 f.2.1 f.2.2.length (u8s f.2.2)
theorem FieldsOwn.reads {W : World} {base : Nat} {v : Value} {fs : List F} (h : FieldsOwn W base v fs) : ReadsFields W v fs := by
  obtain ⟨⟨hl, h⟩, hf⟩ := h
  rcases h with ⟨rfl, hn⟩ | ⟨g, cap, cur, rfl, hb, hg, h1, h2, h3, h4⟩
  · exact .inl ⟨none, 0, rfl, List.length_eq_zero_iff.1 hn⟩
  · refine .inr ⟨g, cap, rfl, fun i hi => ?_⟩
    obtain ⟨c0, c1⟩ := fCells_at fs i hi
    rw [← h4] at c0 c1
    rw [List.getElem?_take, if_pos (by omega)] at c0 c1
    refine ⟨?_, ?_, ?_⟩
    · simp [World.cell?, hg]; simpa using c0
    · simp [World.cell?, hg]; simpa using c1
    · rw [List.getElem?_eq_getElem hi, Option.getD_some]
      exact Reads.of_owns (hf _ (List.getElem_mem hi))
theorem FieldsOwn.below {W W' : World} {base : Nat} {v : Value} {fs : List F} (h : FieldsOwn W base v fs) (hb : Below W.heap.size W W') : FieldsOwn W' base v fs :=
  ⟨owns_up h.1 hb, fun f hf => owns_up (h.2 f hf) hb⟩
theorem below_step_ {a b c : World} (h : Below a.heap.size a b) (h2 : Below b.heap.size b c) : Below a.heap.size a c := h.trans (h2.mono h.size)

def R0At (W : World) (B n : Nat) : Prop := W.heap[B]? = some (.cells #[.int .i64 (n : Int), .int .i64 341, .int .i64 0, .int .i64 0, .int .i64 0, .int .u8 0, .bool false, .int .i64 0, .int .i64 0, .int .i64 0, .slice none 0 0, .slice none 0 0, .slice none 0 0, .slice none 0 0, .slice none 0 0] 76)
theorem R0At.cells {W : World} {B n : Nat} (h : R0At W B n) : W.cell? ⟨B, 0, none⟩ = some (.int .i64 (n : Int)) ∧ W.cell? ⟨B, 1, none⟩ = some (.int .i64 341) ∧ W.cell? ⟨B, 2, none⟩ = some (.int .i64 0) ∧ W.cell? ⟨B, 3, none⟩ = some (.int .i64 0) ∧ W.cell? ⟨B, 4, none⟩ = some (.int .i64 0) ∧ W.cell? ⟨B, 5, none⟩ = some (.int .u8 0) ∧ W.cell? ⟨B, 6, none⟩ = some (.bool false) ∧ W.cell? ⟨B, 7, none⟩ = some (.int .i64 0) ∧ W.cell? ⟨B, 8, none⟩ = some (.int .i64 0) ∧ W.cell? ⟨B, 9, none⟩ = some (.int .i64 0) ∧ W.cell? ⟨B, 10, none⟩ = some (.slice none 0 0) ∧ W.cell? ⟨B, 11, none⟩ = some (.slice none 0 0) ∧ W.cell? ⟨B, 12, none⟩ = some (.slice none 0 0) ∧ W.cell? ⟨B, 13, none⟩ = some (.slice none 0 0) ∧ W.cell? ⟨B, 14, none⟩ = some (.slice none 0 0) := by
  have h' : W.heap[B]? = _ := h
  refine ⟨?_, ?_, ?_, ?_, ?_, ?_, ?_, ?_, ?_, ?_, ?_, ?_, ?_, ?_, ?_⟩ <;> simp [World.cell?, h']
theorem R0At.tail {W : World} {B n : Nat} (h : R0At W B n) : W.cell? ⟨B, 10, none⟩ = some (.slice none 0 0) ∧ W.cell? ⟨B, 11, none⟩ = some (.slice none 0 0) ∧ W.cell? ⟨B, 12, none⟩ = some (.slice none 0 0) ∧ W.cell? ⟨B, 13, none⟩ = some (.slice none 0 0) ∧ W.cell? ⟨B, 14, none⟩ = some (.slice none 0 0) := by
  obtain ⟨-, -, -, -, -, -, -, -, -, -, d10, d11, d12, d13, d14⟩ := h.cells
  exact ⟨d10, d11, d12, d13, d14⟩
theorem R0At.lt {W : World} {B n : Nat} (h : R0At W B n) : B < W.heap.size := (Array.getElem?_eq_some_iff.1 h).1
theorem R0At.below {W W' : World} {B n : Nat} (h : R0At W B n) (hb : Below W.heap.size W W') : R0At W' B n := (hb.block _ h.lt).trans h

set_option maxHeartbeats 2000000 in
theorem fields_R0 (n : Nat) (hn1 : 1 ≤ n) (hn2 : n ≤ 246) (w : World) :
    Calls Tryz.prog 180 #[.agg #[.int .i64 (n : Int), .int .i64 341, .int .i64 0, .int .i64 0, .int .i64 0, .int .u8 0, .bool false, .int .i64 0, .int .i64 0, .int .i64 0, .slice none 0 0, .slice none 0 0, .slice none 0 0, .slice none 0 0, .slice none 0 0]] w fun e w' => ∃ v v1 v2, e = .returned v ∧ FieldsOwn w' w.heap.size v [(1, v1, [(n : Int)]), (3, v2, [248, 1, 85])] ∧ Below w.heap.size w w' := by
  have hw1 : IntKind.u64.wrap (n : Int) = (n : Int) := by rw [IntKind.wrap_u64]; omega
  go_enter Tryz.func180, Tryz.ntmps180
  go_wp2_with fail
  have hR1 : R0At (w.alloc (.cells #[.int .i64 (n : Int), .int .i64 341, .int .i64 0, .int .i64 0, .int .i64 0, .int .u8 0, .bool false, .int .i64 0, .int .i64 0, .int .i64 0, .slice none 0 0, .slice none 0 0, .slice none 0 0, .slice none 0 0, .slice none 0 0] 76)) w.heap.size n := World.alloc_heap_new w _
  have hb1 : Below w.heap.size w (w.alloc (.cells #[.int .i64 (n : Int), .int .i64 341, .int .i64 0, .int .i64 0, .int .i64 0, .int .u8 0, .bool false, .int .i64 0, .int .i64 0, .int .i64 0, .slice none 0 0, .slice none 0 0, .slice none 0 0, .slice none 0 0, .slice none 0 0] 76)) := (Below.refl _ _).alloc (Nat.le_refl _) _
  generalize w.alloc (.cells #[.int .i64 (n : Int), .int .i64 341, .int .i64 0, .int .i64 0, .int .i64 0, .int .u8 0, .bool false, .int .i64 0, .int .i64 0, .int .i64 0, .slice none 0 0, .slice none 0 0, .slice none 0 0, .slice none 0 0, .slice none 0 0] 76) = W1 at *
  generalize hB : w.heap.size = B at *
  refine (Number_any 1 n (by omega) W1).mono ?_; rintro e W2 ⟨v1, rfl, ho1, hb2⟩
  obtain ⟨a1, c1, e1⟩ := ownsRow_form ho1
  subst e1
  rw [show sizeN n = 1 from sizeN_small hn2, show numBytes n = [(n : Int)] by rw [numBytes, if_pos hn2]] at *
  have HO1 := Lib.hid ho1
  have HR2 := Lib.hid (hR1.below hb2)
  have HB2 := Lib.hid (hb1.trans (hb2.mono (by have := hb1.size; omega)))
  have hb3 : Below W2.heap.size W2 (W2.alloc (.cells #[.int .i64 1, .slice a1 1 c1] 141)) := (Below.refl _ _).alloc (Nat.le_refl _) _
  have hR3 := HR2.out.below hb3
  have hBW2 : B ≤ W2.heap.size := Nat.le_of_lt HR2.out.lt
  have hBW1 : B ≤ W1.heap.size := Nat.le_of_lt hR1.lt
  have HF3 : Hid (FieldsOwn (W2.alloc (.cells #[.int .i64 1, .slice a1 1 c1] 141)) B (.slice (some ⟨W2.heap.size, 0, none⟩) 1 1) [(1, .slice a1 1 c1, [(n : Int)])]) := by
    refine ⟨World.ownsRow_lit W2 #[.int .i64 1, .slice a1 1 c1] 1 hBW2 (by unfold maxLen; omega) rfl, fun f hf => ?_⟩
    obtain rfl := List.mem_singleton.1 hf
    exact owns_up (ownsRow_base HO1.out hBW1) hb3
  have HB3 : Hid (Below B w (W2.alloc (.cells #[.int .i64 1, .slice a1 1 c1] 141))) := HB2.out.trans (hb3.mono hBW2)
  obtain ⟨d0, d1, d2, d3, d4, d5, d6, d7, d8, d9, d10, d11, d12, d13, d14⟩ := hR3.cells
  have HR3 := Lib.hid hR3
  clear hb2 ho1 hb3 hR3 HR2 HB2 HO1 hR1 hb1
  generalize hv1 : Value.slice a1 1 c1 = v1 at *
  go_wp2_with fail
  generalize (W2.alloc (.cells #[.int .i64 1, v1] 141)) = W3 at *
  generalize W2.heap.size = X at *
  have HD := Lib.hid (show True from trivial)
  clear d0 d1 d2 d3 d4 d5 d6 d7 d8 d9 d10 d11 d12 d13 d14
  go_loopw [3, 26] (fun d i wr => ∃ z : Int, i = .int .i64 z ∧ (((z = 0 ∨ z = 1) ∧ d = .slice (some ⟨X, 0, none⟩) 1 1 ∧ wr = W3) ∨ ((z = 2 ∨ z = 3 ∨ z = 4 ∨ z = 5) ∧ ∃ g c v2, d = .slice (some ⟨g, 0, none⟩) 2 c ∧ Hid (FieldsOwn wr B (.slice (some ⟨g, 0, none⟩) 2 c) [(1, v1, [(n : Int)]), (3, v2, [248, 1, 85])]) ∧ Hid (R0At wr B n) ∧ Hid (Below B w wr)))) (fun _ i _ => (5 - intOf i).toNat)
  case atStart => exact ⟨0, rfl, .inl ⟨.inl rfl, rfl, rfl⟩⟩
  case round =>
    have x0 : ∀ w : World, (Instr.index 344 (.agg #[.int .i64 0, .int .i64 341, .int .i64 0, .int .i64 0, .int .i64 0]) (.int .i64 0)).run Tryz.prog w = .ok (.int .i64 0) w := fun _ => by kernel_rfl
    have x1 : ∀ w : World, (Instr.index 344 (.agg #[.int .i64 0, .int .i64 341, .int .i64 0, .int .i64 0, .int .i64 0]) (.int .i64 1)).run Tryz.prog w = .ok (.int .i64 341) w := fun _ => by kernel_rfl
    have x2 : ∀ w : World, (Instr.index 344 (.agg #[.int .i64 0, .int .i64 341, .int .i64 0, .int .i64 0, .int .i64 0]) (.int .i64 2)).run Tryz.prog w = .ok (.int .i64 0) w := fun _ => by kernel_rfl
    have x3 : ∀ w : World, (Instr.index 344 (.agg #[.int .i64 0, .int .i64 341, .int .i64 0, .int .i64 0, .int .i64 0]) (.int .i64 3)).run Tryz.prog w = .ok (.int .i64 0) w := fun _ => by kernel_rfl
    have x4 : ∀ w : World, (Instr.index 344 (.agg #[.int .i64 0, .int .i64 341, .int .i64 0, .int .i64 0, .int .i64 0]) (.int .i64 4)).run Tryz.prog w = .ok (.int .i64 0) w := fun _ => by kernel_rfl
    obtain ⟨z, rfl, ⟨hz, rfl, rfl⟩ | ⟨hz, g, c, v2, rfl, HF, HR, HB⟩⟩ := hrel
    · rcases hz with rfl | rfl
      · go_wp2_with fail
        exact ⟨⟨1, rfl, .inl ⟨.inr rfl, rfl, by first | rfl | trivial⟩⟩, by decide⟩
      · go_wp2_with fail
        refine (Number_any 3 341 (by omega) wr).mono ?_; rintro e W4 ⟨v2, rfl, ho2, hb4⟩
        obtain ⟨a2, c2, e2⟩ := ownsRow_form ho2
        subst e2
        have hsz : sizeN 341 = 3 := by rw [← (numBytes_length (x := 341) (by omega)).1, numBytes_341]; rfl
        rw [hsz, numBytes_341] at ho2
        simp only [hsz]
        have hF4 := HF3.out.below hb4
        have HR4 := Lib.hid (HR3.out.below hb4)
        have HB4 := Lib.hid (HB3.out.trans (hb4.mono (Nat.le_of_lt HR3.out.lt)))
        have HO2 := Lib.hid ho2
        have hBW4 : B ≤ W4.heap.size := Nat.le_of_lt HR4.out.lt
        have hBwr : B ≤ wr.heap.size := Nat.le_of_lt HR3.out.lt
        have HF4 := Lib.hid hF4
        clear ho2 hb4 hF4
        obtain ⟨i1, hi, hz0, hz1, hz2⟩ := info_parts infoField2
        go_wp2_with (at_builtin; refine wpList_append_own _ rfl _ _ 137 rfl B 141 i1 _ 2 32 Tryz.underlying137 hi hz0 hz1 hz2 rfl (by decide) _ _ _ rfl (HF4.out.1.alloc _) ⟨W4.heap.size, 0, none⟩ 1 1 [.int .i64 3, .slice a2 3 c2] rfl rfl (news_two_ (by simp) (by simp)) (by simp [Value.oneCell']) (by unfold maxLen; simp) (by simp) (by simp; omega) ?_; intro v' w5 hown' hgrow hat; obtain ⟨g, c, e⟩ := owns_form_pos_ hown' (by simp); subst e; have HOWN := Lib.hid hown'; have HG := Lib.hid hgrow; clear hown' hgrow hat)
        have hm5 : Mod (fun k => some k = (Value.slice (some ⟨X, 0, none⟩) 1 1).ownBlock) W4 w5 := ((Mod.refl _ W4).alloc _).trans (Mod.of_grownBy HG.out)
        refine ⟨⟨2, rfl, .inr ⟨.inl rfl, g, c, .slice a2 3 c2, rfl, ⟨HOWN.out, fun f hf => ?_⟩, hm5.heap HR4.out (own_other_ HF4.out.1 HR4.out (by decide)), HB4.out.trans (hm5.below hBW4 (fun k hk e => by have := ownBlock_ge_ HF4.out.1 e.symm; omega))⟩⟩, by decide⟩
        rcases List.mem_cons.1 hf with rfl | hf
        · exact owns_keep_ (HF4.out.2 _ (by simp)) HF4.out.1 hm5 (by decide)
        · obtain rfl := List.mem_singleton.1 hf
          exact owns_keep_ (ownsRow_base HO2.out hBwr) HF4.out.1 hm5 (by decide)
    · obtain ⟨d0, d1, d2, d3, d4, d5, d6, d7, d8, d9, d10, d11, d12, d13, d14⟩ := HR.out.cells
      rcases hz with rfl | rfl | rfl | rfl
      · go_wp2_with fail
        exact ⟨⟨3, rfl, .inr ⟨.inr (.inl rfl), g, c, v2, rfl, HF, HR, HB⟩⟩, by decide⟩
      · go_wp2_with fail
        exact ⟨⟨4, rfl, .inr ⟨.inr (.inr (.inl rfl)), g, c, v2, rfl, HF, HR, HB⟩⟩, by decide⟩
      · go_wp2_with fail
        exact ⟨⟨5, rfl, .inr ⟨.inr (.inr (.inr rfl)), g, c, v2, rfl, HF, HR, HB⟩⟩, by decide⟩
      · go_wp2_with fail
        clear x0 x1 x2 x3 x4 HB3 HR3 HF3 d0 d1 d2 d3 d4 d5 d6 d7 d8 d9
        go_cut [6] from 58 (fun s6 wx => ∃ BL, s6 = .pointer (some ⟨BL, 0, none⟩) ∧ Hid (NineAt wx BL) ∧ Hid (Below wr.heap.size wr wx))
        case first =>
          rename_i J K' hJ hK
          go_region_held3 (fun W => W.cell? ⟨B, 10, none⟩ = some (.slice none 0 0) ∧ W.cell? ⟨B, 11, none⟩ = some (.slice none 0 0) ∧ W.cell? ⟨B, 12, none⟩ = some (.slice none 0 0) ∧ W.cell? ⟨B, 13, none⟩ = some (.slice none 0 0) ∧ W.cell? ⟨B, 14, none⟩ = some (.slice none 0 0))
            (first | (with_reducible exact HK5.out) | (with_reducible exact HK4.out) | (with_reducible exact HK3.out) | (with_reducible exact HK2.out) | (with_reducible exact HK1.out) | exact (HR.out.below (by (repeat (first | (with_reducible exact HY5.out) | (with_reducible refine below_alloc_ ?_ _) | (with_reducible refine below_set_ ?_ (by first | exact Nat.le_refl _ | assumption) _) | (with_reducible refine below_drew_ ?_))); (first | done | fail))).tail | go_keep)
            ((first
              | (go_at_call 220; refine (list_int 9 none 0 _ _).mono ?_; rintro e y1 ⟨rfl, hb1⟩; have HY1 : Hid (Below wr.heap.size wr y1) := below_step_ (by repeat (first | exact Below.refl _ _ | refine below_drew_ ?_ | refine below_alloc_ ?_ _)) hb1; have hs1 := HY1.out.size; have HK1 := Lib.hid (HR.out.below HY1.out).tail; (try have HA1 := Lib.hid (TenAt.below (by first | exact TenAt.new _) hb1)); clear hb1)
              | (go_at_call 223; refine (list_i64 10 none 0 _ _).mono ?_; rintro e y2 ⟨rfl, hb2⟩; have HY2 : Hid (Below wr.heap.size wr y2) := below_step_ (by repeat (first | exact HY1.out | exact Below.refl _ _ | refine below_drew_ ?_ | refine below_alloc_ ?_ _)) hb2; have hs2 := HY2.out.size; have HK2 := Lib.hid (HR.out.below HY2.out).tail; (try have HA2 := Lib.hid (TenAt.below (by first | exact HA1.out | exact TenAt.new _) hb2)); clear hb2)
              | (go_at_call 225; refine (list_event 11 none 0 _ _).mono ?_; rintro e y3 ⟨rfl, hb3⟩; have HY3 : Hid (Below wr.heap.size wr y3) := below_step_ (by repeat (first | exact HY2.out | exact Below.refl _ _ | refine below_drew_ ?_ | refine below_alloc_ ?_ _)) hb3; have hs3 := HY3.out.size; have HK3 := Lib.hid (HR.out.below HY3.out).tail; (try have HA3 := Lib.hid (TenAt.below (by first | exact HA2.out | exact TenAt.new _) hb3)); clear hb3)
              | (go_at_call 227; refine (list_port 12 none 0 _ _).mono ?_; rintro e y4 ⟨rfl, hb4⟩; have HY4 : Hid (Below wr.heap.size wr y4) := below_step_ (by repeat (first | exact HY3.out | exact Below.refl _ _ | refine below_drew_ ?_ | refine below_alloc_ ?_ _)) hb4; have hs4 := HY4.out.size; have HK4 := Lib.hid (HR.out.below HY4.out).tail; (try have HA4 := Lib.hid (TenAt.below (by first | exact HA3.out | exact TenAt.new _) hb4)); clear hb4)
              | (go_at_call 229; refine (list_handle 13 none 0 _ _).mono ?_; rintro e y5 ⟨rfl, hb5⟩; have HY5 : Hid (Below wr.heap.size wr y5) := below_step_ (by repeat (first | exact HY4.out | exact Below.refl _ _ | refine below_drew_ ?_ | refine below_alloc_ ?_ _)) hb5; have hs5 := HY5.out.size; have HK5 := Lib.hid (HR.out.below HY5.out).tail; (try have HA5 := Lib.hid (TenAt.below (by first | exact HA4.out | exact TenAt.new _) hb5)); clear hb5; (try obtain ⟨p0, p1, p2, p3, p4, p5, p6, p7, p8, p9, q0, q1, q2, q3, q4, q5, q6, q7, q8, q9⟩ := HA5.out.facts))))
          all_goals (change K' _ _; refine hK _ _ (Met.intro (hJ _ _ ?_)); (repeat apply Exists.intro); refine ⟨?_, rfl⟩)
          all_goals (first
            | (with_reducible refine ⟨_, rfl, Lib.hid (TenAt.nine HA5.out), Lib.hid ?_⟩; (repeat (first | (with_reducible exact HY5.out) | (with_reducible refine below_set_ ?_ (by first | exact Nat.le_refl _ | assumption) _))))
            | (with_reducible refine ⟨_, rfl, Lib.hid (NineAt.new _), Lib.hid (below_alloc_ HY5.out _)⟩))
        case rest =>
          clear d10 d11 d12 d13 d14
          obtain ⟨BL, rfl, HN, HW⟩ := hcut
          obtain ⟨p0, p1, p2, p3, p4, p5, p6, p7, p8, p9⟩ := HN.out.facts
          go_wp2_with fail
          clear p0 p1 p2 p3 p4 p5 p6 p7 p8 p9
          go_loopw [3, 75] (fun d i wl => ∃ z : Int, i = .int .i64 z ∧ (z = 0 ∨ z = 1 ∨ z = 2 ∨ z = 3 ∨ z = 4 ∨ z = 5) ∧ d = .slice (some ⟨g, 0, none⟩) 2 c ∧ Hid (Below wr.heap.size wr wl)) (fun _ i _ => (5 - intOf i).toNat)
          case atStart => exact ⟨0, rfl, .inl rfl, rfl, HW⟩
          case round =>
            have x0 : ∀ w : World, (Instr.index 357 (.agg #[.int .i64 9, .slice none 0 0, .int .i64 10, .slice none 0 0, .int .i64 11, .slice none 0 0, .int .i64 12, .slice none 0 0, .int .i64 13, .slice none 0 0]) (.int .i64 0)).run Tryz.prog w = .ok (.agg #[.int .i64 9, .slice none 0 0]) w := fun _ => by kernel_rfl
            have x1 : ∀ w : World, (Instr.index 357 (.agg #[.int .i64 9, .slice none 0 0, .int .i64 10, .slice none 0 0, .int .i64 11, .slice none 0 0, .int .i64 12, .slice none 0 0, .int .i64 13, .slice none 0 0]) (.int .i64 1)).run Tryz.prog w = .ok (.agg #[.int .i64 10, .slice none 0 0]) w := fun _ => by kernel_rfl
            have x2 : ∀ w : World, (Instr.index 357 (.agg #[.int .i64 9, .slice none 0 0, .int .i64 10, .slice none 0 0, .int .i64 11, .slice none 0 0, .int .i64 12, .slice none 0 0, .int .i64 13, .slice none 0 0]) (.int .i64 2)).run Tryz.prog w = .ok (.agg #[.int .i64 11, .slice none 0 0]) w := fun _ => by kernel_rfl
            have x3 : ∀ w : World, (Instr.index 357 (.agg #[.int .i64 9, .slice none 0 0, .int .i64 10, .slice none 0 0, .int .i64 11, .slice none 0 0, .int .i64 12, .slice none 0 0, .int .i64 13, .slice none 0 0]) (.int .i64 3)).run Tryz.prog w = .ok (.agg #[.int .i64 12, .slice none 0 0]) w := fun _ => by kernel_rfl
            have x4 : ∀ w : World, (Instr.index 357 (.agg #[.int .i64 9, .slice none 0 0, .int .i64 10, .slice none 0 0, .int .i64 11, .slice none 0 0, .int .i64 12, .slice none 0 0, .int .i64 13, .slice none 0 0]) (.int .i64 4)).run Tryz.prog w = .ok (.agg #[.int .i64 13, .slice none 0 0]) w := fun _ => by kernel_rfl
            obtain ⟨z, rfl, hz, rfl, HL⟩ := hrel
            rcases hz with rfl | rfl | rfl | rfl | rfl | rfl
            · go_wp2_with fail
              exact ⟨⟨1, rfl, by decide, rfl, below_alloc_ HL _⟩, by decide⟩
            · go_wp2_with fail
              exact ⟨⟨2, rfl, by decide, rfl, below_alloc_ HL _⟩, by decide⟩
            · go_wp2_with fail
              exact ⟨⟨3, rfl, by decide, rfl, below_alloc_ HL _⟩, by decide⟩
            · go_wp2_with fail
              exact ⟨⟨4, rfl, by decide, rfl, below_alloc_ HL _⟩, by decide⟩
            · go_wp2_with fail
              exact ⟨⟨5, rfl, by decide, rfl, below_alloc_ HL _⟩, by decide⟩
            · go_wp2_with fail
              go_ret
              exact ⟨_, v1, v2, rfl, by rw [hB]; exact HF.out.below HL.out, by rw [hB]; exact HB.out.trans (HL.out.mono (Nat.le_of_lt HR.out.lt))⟩
end Resp
end Go.Proofs.YtdfmgneicdpjmaaGreat
