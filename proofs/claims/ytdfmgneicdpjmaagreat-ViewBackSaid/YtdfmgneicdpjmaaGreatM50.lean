import Derived.Test.YtdfmgneicdpjmaaGreatM47
import Derived.Test.YtdfmgneicdpjmaaGreatM49
import Derived.Test.YtdfmgneicdpjmaaGreatM48
namespace Go.Proofs.YtdfmgneicdpjmaaGreat
open Go.RowKit Go.Shelf
set_option linter.unusedVariables false
set_option linter.unusedSimpArgs false
set_option maxRecDepth 100000
namespace View
open Resp

def Cln (es : List Ent) : Prop := es.length ≤ 4000 ∧ ∀ e ∈ es, cleanB e = true
theorem Cln.chk {es : List Ent} (h : Cln es) : chkE es = 0 := by
  unfold chkE
  rw [if_neg (by have := h.1; omega), if_neg]
  intro hb
  unfold badAt at hb
  have h1 := List.findIdx_getElem (w := hb)
  have h2 := h.2 _ (List.getElem_mem hb)
  simp [h2] at h1
theorem Cln.wrg1 {es : List Ent} (h : Cln es) {s : Int} (h0 : 0 ≤ s) (h1 : s ≤ 4294967295) : wrg1 s es = 0 := by
  unfold View.wrg1
  rw [if_pos h.chk, if_neg (by omega)]
theorem Cln.wrg2 {es fs : List Ent} (h : Cln es) (h' : Cln fs) {s : Int} (h0 : 0 ≤ s) (h1 : s ≤ 4294967295) : wrg2 s es fs = 0 := by
  unfold View.wrg2
  rw [if_pos h.chk, h'.wrg1 h0 h1]
theorem Agree_cl (slot : Int) (h0 : 0 ≤ slot) (h1 : slot ≤ 4294967295) (a b : Option Addr) (n m c d : Nat) (es fs : List Ent) (W : World) (h : ScrAt W a n es) (h2 : ScrAt W b m fs) (he : Cln es) (hf : Cln fs) :
    Calls Tryz.prog 27 #[.slice a n c, .slice b m d, .int .i64 slot] W fun e w' => e = .returned (.tuple #[.bool (decide (framesL slot es = framesL slot fs)), .int .i64 0]) ∧ Below W.heap.size W w' :=
  Agree_yes slot a b n m c d es fs W h h2 (by have h3 := h.1; have h4 := he.1; unfold maxLen; omega) (by have h3 := h2.1; have h4 := hf.1; unfold maxLen; omega) (he.wrg2 hf h0 h1)
theorem Alike_cl (n slot : Int) (hn1 : 1 ≤ n) (hn8 : n ≤ 8) (h0 : 0 ≤ slot) (hsn : slot < n) (a b : Option Addr) (k m c d : Nat) (es fs : List Ent) (W : World) (h : ScrAt W a k es) (h2 : ScrAt W b m fs) (he : Cln es) (hf : Cln fs) :
    Calls Tryz.prog 26 #[.slice a k c, .slice b m d, .int .i64 n, .int .i64 slot] W fun e w' => e = .returned (.tuple #[.bool (decide ((mv n slot es).2 = (mv n slot fs).2)), .int .i64 0]) ∧ Below W.heap.size W w' :=
  Alike_yes n slot hn1 hn8 hsn a b k m c d es fs W h h2 (by have h3 := h.1; have h4 := he.1; unfold maxLen; omega) (by have h3 := h2.1; have h4 := hf.1; unfold maxLen; omega) (he.wrg2 hf h0 (by omega))
theorem alike_agree {n s : Int} (h0 : 0 ≤ s) (hs : s < n) {es fs : List Ent} (h : (mv n s es).2 = (mv n s fs).2) : framesL s es = framesL s fs := by
  obtain ⟨k, rfl⟩ : ∃ k : Nat, s = (k : Int) := ⟨s.toNat, by omega⟩
  obtain ⟨m, rfl⟩ : ∃ m : Nat, n = (m : Int) := ⟨n.toNat, by omega⟩
  have hk : k < m := by omega
  rw [← (mv_turns hk es).2, ← (mv_turns hk fs).2, h]
theorem framesL_more (s : Int) (es : List Ent) (b : ByteArray) : framesL s (es ++ [⟨1, s, 0, b⟩]) = framesL s es ++ [b] := by
  unfold framesL
  rw [List.filter_append, List.map_append]
  simp [ownB]
theorem more_ne (s : Int) (es : List Ent) (b : ByteArray) : ¬ framesL s es = framesL s (es ++ [⟨1, s, 0, b⟩]) := by
  rw [framesL_more]
  intro h
  have := congrArg List.length h
  simp at this
theorem other_ne (s : Int) (es : List Ent) {b b' : ByteArray} (h : ¬ b = b') : ¬ framesL s (es ++ [⟨1, s, 0, b⟩]) = framesL s (es ++ [⟨1, s, 0, b'⟩]) := by
  rw [framesL_more, framesL_more]
  intro h9
  have := List.append_cancel_left h9
  simp at this
  exact h this
theorem Cln.more {es : List Ent} (h : Cln es) (hl : es.length ≤ 60) {s : Int} (h0 : 0 ≤ s) (h1 : s ≤ 255) {b : ByteArray} (hb : b.size ≤ 16384) : Cln (es ++ [⟨1, s, 0, b⟩]) := by
  refine ⟨by simp; omega, fun e he => ?_⟩
  rcases List.mem_append.1 he with he | he
  · exact h.2 e he
  · rw [List.mem_singleton.1 he]; exact clean_frame h0 h1 hb
theorem Made_cl (a : Option Addr) (n c : Nat) (es : List Sml) (W : World) (h : SmallAt W a n es) (hnc : n ≤ c) (hc : c ≤ maxLen) (hb : ∀ e ∈ es, e.bytes.size ≤ 140737488351232) :
    Calls Tryz.prog 19 #[.slice a n c] W fun e w' => ∃ b m d fs, e = .returned (.slice b m d) ∧ m = min n 60 ∧ OwnScr w' W.heap.size (.slice b m d) fs ∧ fs.length = m ∧ Cln fs ∧ Below W.heap.size W w' :=
  (Made_any a n c es W h hnc hc hb).mono fun e w' ⟨v, fs, he, ho, hl, hcl, hb⟩ => by
    obtain ⟨b, d, rfl⟩ := ho.form
    exact ⟨b, fs.length, d, fs, he, hl, ho, rfl, ⟨by omega, fun e he => mdB_clean (hcl e he)⟩, hb⟩
theorem Made_md (a : Option Addr) (n c : Nat) (es : List Sml) (W : World) (h : SmallAt W a n es) (hnc : n ≤ c) (hc : c ≤ maxLen) (hb : ∀ e ∈ es, e.bytes.size ≤ 140737488351232) :
    Calls Tryz.prog 19 #[.slice a n c] W fun e w' => ∃ b m d fs, e = .returned (.slice b m d) ∧ m = min n 60 ∧ OwnScr w' W.heap.size (.slice b m d) fs ∧ fs.length = m ∧ Cln fs ∧ (∀ e ∈ fs, e.kind = 1 → 0 ≤ e.slot ∧ e.slot ≤ 3) ∧ Below W.heap.size W w' :=
  (Made_any a n c es W h hnc hc hb).mono fun e w' ⟨v, fs, he, ho, hl, hcl, hb⟩ => by
    obtain ⟨b, d, rfl⟩ := ho.form
    exact ⟨b, fs.length, d, fs, he, hl, ho, rfl, ⟨by omega, fun e he => mdB_clean (hcl e he)⟩, fun e he hk => mdB_slot (hcl e he) hk, hb⟩
theorem clean_bytes {e : Ent} (h : cleanB e = true) : e.bytes.size ≤ 140737488351232 := Nat.le_trans (clean_size h) (by omega)
theorem OwnScr.at_ {W : World} {base : Nat} {b : Option Addr} {m d : Nat} {fs : List Ent} (h : OwnScr W base (.slice b m d) fs) : ScrAt W b m fs := by
  obtain ⟨a, c, e, -, -, h1⟩ := h.scr
  injection e with e1 e2 e3
  subst e1; subst e2; subst e3
  exact h1
end View
end Go.Proofs.YtdfmgneicdpjmaaGreat

namespace Go.Proofs.YtdfmgneicdpjmaaGreat
open Go.RowKit Go.Shelf
set_option linter.unusedVariables false
set_option linter.unusedSimpArgs false
set_option maxRecDepth 100000
namespace View
open Resp

theorem own_cells {W : World} {base : Nat} {v : Value} {l : List (Ent × Value)} (ho : W.ownsRow base 38 4 v l.length (entCs l)) (h0 : 0 < l.length) :
    ∃ g cap cur, v = .slice (some ⟨g, 0, none⟩) l.length cap ∧ base ≤ g ∧ W.heap[g]? = some (.cells cur 38) ∧ ∀ (i : Nat) (hi : i < l.length) (j : Nat) (u : Value), j < 4 → (entC l[i].1 l[i].2)[j]? = some u → W.cell? ⟨g, i * 4 + j, none⟩ = some u := by
  rcases ho.2 with ⟨rfl, hz⟩ | ⟨g, cap, cur, rfl, hb, hgg, hcap, h2, h3, h4⟩
  · have hl : l.length = 0 := by have := entCs_length l; rw [hz] at this; have h9 : ([] : List Value).length = 0 := rfl; omega
    omega
  · refine ⟨g, cap, cur, rfl, hb, hgg, fun i hi j u hj hu => ?_⟩
    have h5 : (entCs l)[i * 4 + j]? = some u := by
      have hsp : l = l.take i ++ l[i] :: l.drop (i + 1) := by rw [List.getElem_cons_drop, List.take_append_drop]
      rw [hsp, entCs_append]
      have hlen : (entCs (l.take i)).length = i * 4 := by rw [entCs_length, List.length_take_of_le (by omega)]
      rw [List.getElem?_append_right (by omega), hlen, Nat.add_sub_cancel_left]
      simp only [entCs, List.flatMap_cons]
      rw [List.getElem?_append_left (by simp [entC]; omega)]
      exact hu
    have h6 : (cur.toList.take (l.length * 4))[i * 4 + j]? = some u := by rw [h4]; exact h5
    rw [List.getElem?_take, if_pos (by omega)] at h6
    simp [World.cell?, hgg]; simpa using h6
theorem set_last {w : World} {base : Nat} {ov : Value} {es : List Ent} {e : Ent} (h : OwnScr w base ov (es ++ [e])) :
    ∃ g c v0, ov = .slice (some ⟨g, 0, none⟩) (es.length + 1) c ∧ base ≤ g ∧ g < w.heap.size ∧ w.cell? ⟨g, es.length * 4 + 3, none⟩ = some v0 ∧ w.frozen? ⟨g, es.length * 4 + 3, none⟩ = false ∧
      ∀ nv s, StrAt (w.setCell ⟨g, es.length * 4 + 3, none⟩ nv) nv s → ScrAt (w.setCell ⟨g, es.length * 4 + 3, none⟩ nv) (some ⟨g, 0, none⟩) (es.length + 1) (es ++ [{ e with bytes := s }]) := by
  obtain ⟨l, hl, ho, hf, -⟩ := h
  have hll : l.length = es.length + 1 := by rw [← List.length_map (f := Prod.fst), hl]; simp
  obtain ⟨g, c, cur, rfl, hbg, hgg, hc⟩ := own_cells ho (by omega)
  have hlt : g < w.heap.size := (Array.getElem?_eq_some_iff.1 hgg).1
  have hc3 := hc es.length (by omega) 3 _ (by omega) (by simp [entC]; rfl)
  refine ⟨g, c, _, by rw [hll], hbg, hlt, hc3, by simp [World.frozen?, hgg], fun nv s hn => ⟨by simp, fun i e' he => ⟨g, 0, rfl, ?_⟩⟩⟩
  have hi : i < es.length + 1 := by have := (List.getElem?_eq_some_iff.1 he).1; simpa using this
  have hli : l[i].1 = (es ++ [e])[i]'(by simp; omega) := by
    have h9 : (l.map Prod.fst)[i]? = (es ++ [e])[i]? := by rw [hl]
    rw [List.getElem?_map, List.getElem?_eq_getElem (by omega), List.getElem?_eq_getElem (by simp; omega)] at h9
    simpa using h9
  have hm := mod_set_ w g (es.length * 4 + 3) nv
  have hoc : ∀ o u, ¬ o = es.length * 4 + 3 → w.cell? ⟨g, o, none⟩ = some u → (w.setCell ⟨g, es.length * 4 + 3, none⟩ nv).cell? ⟨g, o, none⟩ = some u := fun o u hne hu => by
    refine Eq.trans (World.cell?_setCell_other (h := ?_) ..) hu
    intro h; injection h with h1 h2 h3; exact hne h2.symm
  have c0 := hc i (by omega) 0 _ (by omega) (by simp [entC]; rfl)
  have c1 := hc i (by omega) 1 _ (by omega) (by simp [entC]; rfl)
  have c2 := hc i (by omega) 2 _ (by omega) (by simp [entC]; rfl)
  have c3 := hc i (by omega) 3 _ (by omega) (by simp [entC]; rfl)
  by_cases hie : i < es.length
  · rw [List.getElem?_append_left hie, List.getElem?_eq_getElem hie] at he
    obtain rfl := Option.some.inj he
    rw [List.getElem_append_left hie] at hli
    rw [hli] at c0 c1 c2
    refine ⟨l[i].2, ?_, ?_, ?_, ?_, ?_⟩
    · have := hoc _ _ (by omega) c0; simpa using this
    · have := hoc _ _ (by omega) c1; simpa using this
    · have := hoc _ _ (by omega) c2; simpa using this
    · have := hoc _ _ (by omega) c3; simpa using this
    · obtain ⟨zs, h5, h6⟩ := hf _ (List.getElem_mem (by omega : i < l.length))
      rw [hli] at h6
      exact ⟨zs, Reads.of_owns (owns_keep_at_ h5 hgg hm (by decide)), h6⟩
  · obtain rfl : i = es.length := by omega
    have he' : e' = { e with bytes := s } := by simpa using he.symm
    subst he'
    have hli' : l[es.length].1 = e := by rw [hli]; simp
    rw [hli'] at c0 c1 c2
    refine ⟨nv, ?_, ?_, ?_, ?_, hn⟩
    · have := hoc _ _ (by omega) c0; simpa using this
    · have := hoc _ _ (by omega) c1; simpa using this
    · have := hoc _ _ (by omega) c2; simpa using this
    · have := World.cell?_setCell_same (v := nv) (h := hc3) ..; simpa using this
end View
end Go.Proofs.YtdfmgneicdpjmaaGreat
