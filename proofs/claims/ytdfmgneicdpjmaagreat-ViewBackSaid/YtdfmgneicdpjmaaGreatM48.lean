import Derived.Test.YtdfmgneicdpjmaaGreatM47
import Derived.Test.YtdfmgneicdpjmaaGreatM42
import Derived.Test.YtdfmgneicdpjmaaGreatM44
import Derived.Test.YtdfmgneicdpjmaaGreatM45
import Derived.Test.YtdfmgneicdpjmaaGreatM46
namespace Go.Proofs.YtdfmgneicdpjmaaGreat
open Go.RowKit Go.Shelf
set_option linter.unusedVariables false
set_option linter.unusedSimpArgs false
set_option maxRecDepth 100000
namespace View
open Resp

end View
end Go.Proofs.YtdfmgneicdpjmaaGreat

namespace Go.Proofs.YtdfmgneicdpjmaaGreat
open Go.RowKit Go.Shelf
attribute [local go_sem] Oper.semAt_some
set_option linter.unusedVariables false
set_option linter.unusedSimpArgs false
set_option maxRecDepth 100000
namespace View
open Resp

def mixE (es fs : List Ent) (zs : List Int) : Int := if wrg2 0 es fs = 0 then (if atOk es.length fs.length zs = true then (if es.length + fs.length ≤ 4000 then 0 else 5) else 2) else wrg2 0 es fs
def mixV (es fs : List Ent) (zs : List Int) : List Ent := if mixE es fs zs = 0 then mixP 0 es (fs.zip zs) else []
theorem Mix_all (a b za : Option Addr) (zn c d zc : Nat) (es fs : List Ent) (zs : List Int) (W : World) (h : ScrAt W a es.length es) (h2 : ScrAt W b fs.length fs) (hn : es.length ≤ maxLen) (hm : fs.length ≤ d) (hd : d ≤ maxLen) (hz : Reads .i64 W (.slice za zn zc) zs) (hzl : zs.length ≤ 1000000) :
    Calls Tryz.prog 23 #[.slice a es.length c, .slice b fs.length d, .slice za zn zc] W fun e w' => ∃ v, e = .returned (.tuple #[v, .int .i64 (mixE es fs zs)]) ∧ OwnScr w' W.heap.size v (mixV es fs zs) ∧ Below W.heap.size W w' := by
  have hmm : fs.length ≤ maxLen := by omega
  by_cases h0 : wrg2 0 es fs = 0
  · cases ha : atOk es.length fs.length zs with
    | false =>
      have hE : mixE es fs zs = 2 := by rw [mixE, if_pos h0, ha]; rfl
      have hV : mixV es fs zs = [] := by rw [mixV, hE]; rfl
      rw [hE, hV]
      exact (Mix_arg a b za _ _ zn c d zc es fs zs W h h2 hn hmm hz hzl h0 ha).mono fun e w' ⟨he, hb⟩ => ⟨_, he, OwnScr.nil _ _, hb⟩
    | true =>
      by_cases hs : es.length + fs.length ≤ 4000
      · have hE : mixE es fs zs = 0 := by rw [mixE, if_pos h0, ha, if_pos rfl, if_pos hs]
        have hV : mixV es fs zs = mixP 0 es (fs.zip zs) := by rw [mixV, hE]; rfl
        rw [hE, hV]
        exact Mix_yes a b za _ _ zn c d zc es fs zs W h h2 hn hm hd hz h0 ha hs
      · have hE : mixE es fs zs = 5 := by rw [mixE, if_pos h0, ha, if_pos rfl, if_neg hs]
        have hV : mixV es fs zs = [] := by rw [mixV, hE]; rfl
        rw [hE, hV]
        exact (Mix_many a b za _ _ zn c d zc es fs zs W h h2 hn hm hd hz h0 ha (by omega)).mono fun e w' ⟨he, hb⟩ => ⟨_, he, OwnScr.nil _ _, hb⟩
  · have hE : mixE es fs zs = wrg2 0 es fs := by rw [mixE, if_neg h0]
    have hV : mixV es fs zs = [] := by rw [mixV, hE, if_neg h0]
    rw [hE, hV]
    exact (Mix_no a b za _ _ zn c d zc es fs W h h2 hn hmm _ rfl h0).mono fun e w' ⟨he, hb⟩ => ⟨_, he, OwnScr.nil _ _, hb⟩
end View
end Go.Proofs.YtdfmgneicdpjmaaGreat

namespace Go.Proofs.YtdfmgneicdpjmaaGreat
open Go.RowKit Go.Shelf
attribute [local go_sem] Oper.semAt_some
set_option linter.unusedVariables false
set_option linter.unusedSimpArgs false
set_option maxRecDepth 100000
namespace View
open Resp

end View
end Go.Proofs.YtdfmgneicdpjmaaGreat
