import Derived.Test.YtdfmgneicdpjmaaGreatW47
import Derived.Test.YtdfmgneicdpjmaaGreatW49
import Derived.Test.YtdfmgneicdpjmaaGreatW48
namespace Go.Proofs.YtdfmgneicdpjmaaGreat
open Go.RowKit Go.Shelf
set_option linter.unusedVariables false
set_option linter.unusedSimpArgs false
set_option maxRecDepth 100000
namespace View
open Resp
def Cln (es : List Ent) : Prop := es.length ≤ 4000 ∧ ∀ e ∈ es, cleanB e = true
theorem Cln.chk {es : List Ent} (h : Cln es) : chkE es = 0 := by
 unfold chkE
 rw [if_neg (by have := h.1; omega), if_neg]
 intro hb
 unfold badAt at hb
 have h1 := List.findIdx_getElem (w := hb)
 have h2 := h.2 _ (List.getElem_mem hb)
 simp [h2] at h1
theorem Cln.wrg1 {es : List Ent} (h : Cln es) {s : Int} (h0 : 0 ≤ s) (h1 : s ≤ 4294967295) : wrg1 s es = 0 := by
 unfold View.wrg1
 rw [if_pos h.chk, if_neg (by omega)]
theorem Cln.wrg2 {es fs : List Ent} (h : Cln es) (h' : Cln fs) {s : Int} (h0 : 0 ≤ s) (h1 : s ≤ 4294967295) : wrg2 s es fs = 0 := by
 unfold View.wrg2
 rw [if_pos h.chk, h'.wrg1 h0 h1]
theorem Cln.more {es : List Ent} (h : Cln es) (hl : es.length ≤ 60) {s : Int} (h0 : 0 ≤ s) (h1 : s ≤ 255) {b : ByteArray} (hb : b.size ≤ 16384) : Cln (es ++ [⟨1, s, 0, b⟩]) := by
 refine ⟨by simp; omega, fun e he => ?_⟩
 rcases List.mem_append.1 he with he | he
 · exact h.2 e he
 · rw [List.mem_singleton.1 he]; exact clean_frame h0 h1 hb
theorem Made_cl (a : Option Addr) (n c : Nat) (es : List Sml) (W : World) (h : SmallAt W a n es) (hnc : n ≤ c) (hc : c ≤ maxLen) (hb : ∀ e ∈ es, e.bytes.size ≤ 140737488351232) :
   Calls Tryz.prog 19 #[.slice a n c] W fun e w' => ∃ b m d fs, e = .returned (.slice b m d) ∧ m = min n 60 ∧ OwnScr w' W.heap.size (.slice b m d) fs ∧ fs.length = m ∧ Cln fs ∧ Below W.heap.size W w' :=
 (Made_any a n c es W h hnc hc hb).mono fun e w' ⟨v, fs, he, ho, hl, hcl, hb⟩ => by
   obtain ⟨b, d, rfl⟩ := ho.form
   exact ⟨b, fs.length, d, fs, he, hl, ho, rfl, ⟨by omega, fun e he => mdB_clean (hcl e he)⟩, hb⟩
theorem clean_bytes {e : Ent} (h : cleanB e = true) : e.bytes.size ≤ 140737488351232 := Nat.le_trans (clean_size h) (by omega)
theorem OwnScr.at_ {W : World} {base : Nat} {b : Option Addr} {m d : Nat} {fs : List Ent} (h : OwnScr W base (.slice b m d) fs) : ScrAt W b m fs := by
 obtain ⟨a, c, e, -, -, h1⟩ := h.scr
 injection e with e1 e2 e3
 subst e1; subst e2; subst e3
 exact h1
end View
end Go.Proofs.YtdfmgneicdpjmaaGreat

namespace Go.Proofs.YtdfmgneicdpjmaaGreat
open Go.RowKit Go.Shelf
set_option linter.unusedVariables false
set_option linter.unusedSimpArgs false
set_option maxRecDepth 100000
namespace View
open Resp
end View
end Go.Proofs.YtdfmgneicdpjmaaGreat
