import Derived.Test.YtdfmgneicdpjmaaGreatVwC
import Derived.Deep.QuietTactic
import Derived.BigQuiet
/- fermatalaw42.entries, where both are the same. -/
namespace Go.Proofs.YtdfmgneicdpjmaaGreat
open Go.RowKit Go.Shelf
set_option linter.unusedVariables false
set_option linter.unusedSimpArgs false
set_option maxRecDepth 100000
namespace View
open Resp

def inBytes {α : Type} (l : List (α × Value)) (g : Nat) : Prop := ∃ x ∈ l, x.2.ownBlock = some g
theorem Grown.row {W : World} {base : Nat} {v : Value} {l : List (Ent × Value)} (h : Grown W base v l) : ORow ⟨38, 4, entC, Ent.bytes⟩ W base v l := h
theorem u8s_set (zs : List Int) (j : Nat) (z : Int) : (u8s zs).set j (.int .u8 z) = u8s (zs.set j z) := by simp [u8s, List.map_set]
/-- Behind k entries: those to come are as they were. -/
def EnI (W : World) (lo : Nat) (v : Value) (l : List (Ent × Value)) (k : Nat) (wr : World) : Prop :=
  wr.ownsRow lo 38 4 v l.length (entCs l) ∧ (∀ x ∈ l.drop k, FreshB wr lo x.2 x.1.bytes) ∧ Mod (inBytes l) W wr
set_option maxHeartbeats 4000000 in
theorem entries_yes (lo : Nat) (v : Value) (l : List (Ent × Value)) (ba : Option Addr) (bc : Nat) (W : World) (h : Grown W lo v l) (hl : l.length ≤ 100000) (hb : ∀ W', Mod (inBytes l) W W' → ScrAt W' ba l.length (l.map (·.1))) :
    Calls Tryz.prog 51 #[v, .slice ba l.length bc] W fun e w' => e = .returned (.bool true) ∧ Mod (inBytes l) W w' := by
  obtain ⟨va, vc, rfl⟩ := ownsRow_form h.1
  have hlI : (l.length : Int) ≤ 100000 := by omega
  have HI : Hid (EnI W lo (.slice va l.length vc) l 0 W) := ⟨h.1, fun x hx => h.2.1 x (by simpa using hx), Mod.refl _ _⟩
  have HP := Lib.hid h.2.2
  have HB := Lib.hid hb
  clear h hb
  generalize hn : l.length = n at *
  have HN := Lib.hid hn
  clear hn
  go_enter Tryz.func51, Tryz.ntmps51
  go_wp2_with fail
  go_loopw [14, 5, 6] (fun i _ _ wr => ∃ k : Nat, k ≤ n ∧ i = .int .i64 k ∧ Hid (EnI W lo (.slice va n vc) l k wr)) (fun i _ _ _ => n - (intOf i).toNat)
  case atStart => exact ⟨0, Nat.zero_le _, rfl, HI⟩
  case round =>
    obtain ⟨k, hk, rfl, HK⟩ := hrel
    obtain ⟨wk, rfl⟩ : ∃ wk : World, wk = wr := ⟨_, rfl⟩
    by_cases hlt : k < n
    · have hltI : (k : Int) < n := by omega
      have hk2 : k < l.length := by have := HN.out; omega
      obtain ⟨h1, h2, h3⟩ := HK.out
      rw [HN.out] at h1
      obtain ⟨g, rfl, hgX, ⟨cur, hgc⟩, hgf, hnc, hgcell⟩ := owns_parts h1 (by omega)
      have hf : FreshB wk lo l[k].2 l[k].1.bytes := h2 l[k] (by rw [← List.getElem_cons_drop hk2]; exact List.mem_cons_self)
      obtain ⟨sa, sc, hsv⟩ := hf.str.form
      have a0 := hgcell _ _ (entCs_at (j := 0) hk2 (by omega) |>.trans (by rfl))
      have a1 := hgcell _ _ (entCs_at (j := 1) hk2 (by omega) |>.trans (by rfl))
      have a2 := hgcell _ _ (entCs_at (j := 2) hk2 (by omega) |>.trans (by rfl))
      have a3 := hgcell _ _ (entCs_at (j := 3) hk2 (by omega) |>.trans (by rfl))
      have hbs := HB.out wk h3
      have hkm : k < (l.map (·.1)).length := by simpa using hk2
      obtain ⟨b, o, bv, ta, tc, rfl, hbl, b0, b1, b2, b3, hbst, rfl⟩ := hbs.at_ hkm
      simp only [List.getElem_map] at b0 b1 b2 b3 hbst
      simp only [Nat.add_zero] at a0
      rw [hsv] at a3 hf
      have hf' := hf.str
      have hsv' : l[k].2 = .slice sa l[k].1.bytes.size sc := hsv
      have HF := Lib.hid hf
      have HBST := Lib.hid hbst
      have HK1 := Lib.hid h1
      have HK2 := Lib.hid h2
      have HK3 := Lib.hid h3
      have HSV := Lib.hid hsv
      have HGC := Lib.hid hgc
      clear h1 h2 h3 hsv hgc hgcell hf hbst hbs hbl hgf
      generalize hz : l[k].1 = z at *
      have HZ := Lib.hid hz
      clear hz
      go_wp2_with fail
      have HSF := Lib.hid hf'
      clear hf'
      go_quiet ((go_at_call 33; exact Calls.quiet_of_same (EqualB_refl _ _ z.bytes _ (by exact HSF.out) (by exact HBST.out))))
      go_wp2_with fail
      obtain ⟨zs0, hzo, hzb⟩ := HF.out
      have hzl : zs0.length = z.bytes.size := by rw [← hzb, strOfNums_size]
      rw [hzl] at hzo
      have HEQ := Lib.hid hsv'
      clear hsv'
      have hgne : ¬ some g = (Value.slice sa z.bytes.size sc).ownBlock := own_other_ hzo HGC.out (by decide)
      have HZO : Hid ((wk.drewN nq).ownsRow lo 5 1 (.slice sa z.bytes.size sc) z.bytes.size (u8s zs0)) := hzo
      have HM0 : Hid (Mod (fun q => some q = (Value.slice sa z.bytes.size sc).ownBlock) wk (wk.drewN nq)) := (mod_drewN_ wk nq).mono (by simp)
      have HGNE := Lib.hid hgne
      have HZL := Lib.hid hzl
      have hbnd : (z.bytes.size : Int) ≤ 9223372036854775807 := by
        have := hzo.2
        rcases this with ⟨e, -⟩ | ⟨g', cap, cur', e, -, -, u1, u2, -, -⟩
        · have e2 : z.bytes.size = 0 := by injection e
          omega
        · have e2 : cap = sc := by injection e with _ _ e3; exact e3.symm
          unfold maxLen at u2; omega
      clear hzo hzb hgne hzl a0 a1 a2 b0 b1 b2 b3
      generalize hzn : z.bytes.size = zn at *
      have HZN := Lib.hid hzn
      clear hzn
      have A3 := Lib.hid a3
      clear a3
      generalize wk.drewN nq = wo at *
      go_loopw [74, 6] (fun i _ wi => ∃ (j : Nat) (zs : List Int), j ≤ zn ∧ i = .int .i64 j ∧ Hid (zs.length = zn) ∧ Hid (wi.ownsRow lo 5 1 (.slice sa zn sc) zn (u8s zs)) ∧ Hid (Mod (fun q => some q = (Value.slice sa zn sc).ownBlock) wk wi)) (fun i _ _ => zn - (intOf i).toNat)
      case atStart => exact ⟨0, zs0, Nat.zero_le _, rfl, HZL.out, HZO.out, HM0.out⟩
      case round =>
        obtain ⟨j, zs, hj, rfl, HJL, HJO, HJM⟩ := hrel
        by_cases hjlt : j < zn
        · have hjI : (j : Int) < zn := by omega
          obtain ⟨q, rfl, hqX, ⟨cur2, hqc⟩, hqf, hqn, hqcell⟩ := owns_parts HJO.out (by omega)
          have hjz : j < zs.length := by have := HJL.out; omega
          have d1 := hqcell j (.int .u8 zs[j]) (by simp [u8s, List.getElem?_map, List.getElem?_eq_getElem hjz])
          have d2 := hqf j
          have a3 := HJM.out.cell HGNE.out A3.out
          clear hqcell hqf
          go_wp2_with fail
          exact ⟨⟨j + 1, zs.set j _, by omega, by simp, by simp [Hid, HJL.out], by rw [← u8s_set]; exact owns_setN HJO.out _ _, HJM.out.setCell (.inr (by simp [Value.ownBlock])) _⟩, by simp [intOf]; omega⟩
        · obtain rfl : j = zn := by omega
          have heq : l[k].2 = .slice sa j sc := HEQ.out
          have hmod : Mod (inBytes l) W wr := HK3.out.trans (HJM.out.mono (fun q _ hq => ⟨l[k], List.getElem_mem hk2, by rw [heq]; exact hq.symm⟩))
          have hrow : wr.ownsRow lo 38 4 (.slice (some ⟨g, 0, none⟩) n vc) n (entCs l) := ownsRow_mod HK1.out HJM.out (fun q hq hs => by
            have e : g = q := by simpa [Value.ownBlock] using hq
            exact HGNE.out (by rw [e]; exact hs))
          have hfr : ∀ x ∈ l.drop (k + 1), FreshB wr lo x.2 x.1.bytes := fun x hx => by
            have hd : l.drop k = l[k] :: l.drop (k + 1) := (List.getElem_cons_drop hk2).symm
            have hp := HP.out.sublist (List.drop_sublist k l)
            rw [hd, List.pairwise_cons] at hp
            refine (HK2.out x (by rw [hd]; exact List.mem_cons_of_mem _ hx)).mod HJM.out (fun q hq hs => ?_)
            exact hp.1 x hx q (by rw [heq]; exact hs.symm) hq
          have HEN : Hid (EnI W lo (.slice (some ⟨g, 0, none⟩) n vc) l (k + 1) wr) := ⟨by rw [HN.out]; exact hrow, hfr, hmod⟩
          clear heq hmod hrow hfr
          go_wp2_with fail
          exact ⟨⟨k + 1, by omega, by simp, HEN.out⟩, by simp [intOf]; omega⟩
    · obtain rfl : k = n := by omega
      go_wp2_with fail
      go_ret
      exact ⟨rfl, HK.out.2.2⟩
end View
end Go.Proofs.YtdfmgneicdpjmaaGreat

/- fermatalaw42.moves, where both are the same. -/
namespace Go.Proofs.YtdfmgneicdpjmaaGreat
open Go.RowKit Go.Shelf
set_option linter.unusedVariables false
set_option linter.unusedSimpArgs false
set_option maxRecDepth 100000
namespace View
open Resp

theorem movO_len : ∀ l : List ((Bool × ByteArray) × Value), (movO.flat l).length = l.length * 2
  | [] => rfl
  | x :: t => by
    have := movO_len t
    simp only [Sh.flat, movO, List.flatMap_cons, List.length_append, List.length_cons, List.length_nil] at this ⊢
    rw [this]; omega
theorem movO_split {l : List ((Bool × ByteArray) × Value)} {i : Nat} (hi : i < l.length) : movO.flat l = movO.flat (l.take i) ++ ([.bool l[i].1.1, l[i].2] ++ movO.flat (l.drop (i + 1))) := by
  have h0 : l = l.take i ++ ([(l[i].1, l[i].2)] ++ l.drop (i + 1)) := by
    have h := List.take_append_drop i l
    rw [← List.getElem_cons_drop hi] at h
    exact h.symm
  have h1 := congrArg movO.flat h0
  simp only [Sh.flat, movO, List.flatMap_append, List.flatMap_cons, List.flatMap_nil, List.append_nil] at h1 ⊢
  exact h1
theorem movO_at {l : List ((Bool × ByteArray) × Value)} {i j : Nat} (hi : i < l.length) (hj : j < 2) : (movO.flat l)[i * 2 + j]? = ([.bool l[i].1.1, l[i].2] : List Value)[j]? := by
  have hlen : (movO.flat (l.take i)).length = i * 2 := by rw [movO_len, List.length_take_of_le (by omega)]
  rw [movO_split hi, List.getElem?_append_right (by omega), hlen, Nat.add_sub_cancel_left, List.getElem?_append_left (by simp; omega)]
/-- The slice (a, n) holds the moves ms. -/
def MvsAt (W : World) (a : Option Addr) (n : Nat) (ms : List (Bool × ByteArray)) : Prop := ms.length = n ∧ ∀ i m, ms[i]? = some m → ∃ b o v, a = some ⟨b, o, none⟩ ∧ W.cell? ⟨b, o + i * 2, none⟩ = some (.bool m.1) ∧ W.cell? ⟨b, o + i * 2 + 1, none⟩ = some v ∧ StrAt W v m.2
theorem MvsAt.at_ {W : World} {a : Option Addr} {n : Nat} {ms : List (Bool × ByteArray)} (h : MvsAt W a n ms) {i : Nat} (hi : i < ms.length) : ∃ b o v sa sc, a = some ⟨b, o, none⟩ ∧ b < W.heap.size ∧ W.cell? ⟨b, o + i * 2, none⟩ = some (.bool ms[i].1) ∧ W.cell? ⟨b, o + i * 2 + 1, none⟩ = some v ∧ StrAt W v ms[i].2 ∧ v = .slice sa ms[i].2.size sc := by
  obtain ⟨b, o, v, e, h0, h1, h2⟩ := h.2 i _ (List.getElem?_eq_getElem hi)
  obtain ⟨sa, sc, e2⟩ := h2.form
  exact ⟨b, o, v, sa, sc, e, World.block_lt_of_cell? W _ h0, h0, h1, h2, e2⟩
/-- Behind k entries: those to come are as they were. -/
def MoI (W : World) (lo : Nat) (v : Value) (l : List ((Bool × ByteArray) × Value)) (k : Nat) (wr : World) : Prop :=
  wr.ownsRow lo 80 2 v l.length (movO.flat l) ∧ (∀ x ∈ l.drop k, FreshB wr lo x.2 x.1.2) ∧ Mod (inBytes l) W wr
set_option maxHeartbeats 4000000 in
theorem moves_yes (lo : Nat) (v : Value) (l : List ((Bool × ByteArray) × Value)) (ba : Option Addr) (bc : Nat) (W : World) (h : ORow movO W lo v l) (hl : l.length ≤ 100000) (hb : ∀ W', Mod (inBytes l) W W' → MvsAt W' ba l.length (l.map (·.1))) :
    Calls Tryz.prog 52 #[v, .slice ba l.length bc] W fun e w' => e = .returned (.bool true) ∧ Mod (inBytes l) W w' := by
  obtain ⟨va, vc, rfl⟩ := ownsRow_form h.1
  have hlI : (l.length : Int) ≤ 100000 := by omega
  have HI : Hid (MoI W lo (.slice va l.length vc) l 0 W) := ⟨h.1, fun x hx => h.2.1 x (by simpa using hx), Mod.refl _ _⟩
  have HP := Lib.hid h.2.2
  have HB := Lib.hid hb
  clear h hb
  generalize hn : l.length = n at *
  have HN := Lib.hid hn
  clear hn
  go_enter Tryz.func52, Tryz.ntmps52
  go_wp2_with fail
  go_loopw [14, 5, 6] (fun i _ _ wr => ∃ k : Nat, k ≤ n ∧ i = .int .i64 k ∧ Hid (MoI W lo (.slice va n vc) l k wr)) (fun i _ _ _ => n - (intOf i).toNat)
  case atStart => exact ⟨0, Nat.zero_le _, rfl, HI⟩
  case round =>
    obtain ⟨k, hk, rfl, HK⟩ := hrel
    obtain ⟨wk, rfl⟩ : ∃ wk : World, wk = wr := ⟨_, rfl⟩
    by_cases hlt : k < n
    · have hltI : (k : Int) < n := by omega
      have hk2 : k < l.length := by have := HN.out; omega
      obtain ⟨h1, h2, h3⟩ := HK.out
      rw [HN.out] at h1
      obtain ⟨g, rfl, hgX, ⟨cur, hgc⟩, hgf, hnc, hgcell⟩ := owns_parts h1 (by omega)
      have hf : FreshB wk lo l[k].2 l[k].1.2 := h2 l[k] (by rw [← List.getElem_cons_drop hk2]; exact List.mem_cons_self)
      obtain ⟨sa, sc, hsv⟩ := hf.str.form
      have a0 := hgcell _ _ (movO_at (j := 0) hk2 (by omega) |>.trans (by rfl))
      have a3 := hgcell _ _ (movO_at (j := 1) hk2 (by omega) |>.trans (by rfl))
      have hbs := HB.out wk h3
      have hkm : k < (l.map (·.1)).length := by simpa using hk2
      obtain ⟨b, o, bv, ta, tc, rfl, hbl, b0, b3, hbst, rfl⟩ := hbs.at_ hkm
      simp only [List.getElem_map] at b0 b3 hbst
      simp only [Nat.add_zero] at a0
      rw [hsv] at a3 hf
      have hf' := hf.str
      have hsv' : l[k].2 = .slice sa l[k].1.2.size sc := hsv
      have HF := Lib.hid hf
      have HBST := Lib.hid hbst
      have HK1 := Lib.hid h1
      have HK2 := Lib.hid h2
      have HK3 := Lib.hid h3
      have HSV := Lib.hid hsv
      have HGC := Lib.hid hgc
      clear h1 h2 h3 hsv hgc hgcell hf hbst hbs hbl hgf
      generalize hz : l[k].1 = z at *
      have HZ := Lib.hid hz
      clear hz
      go_wp2_with fail
      have HSF := Lib.hid hf'
      clear hf'
      go_quiet ((go_at_call 33; exact Calls.quiet_of_same (EqualB_refl _ _ z.2 _ (by exact HSF.out) (by exact HBST.out))))
      go_wp2_with fail
      obtain ⟨zs0, hzo, hzb⟩ := HF.out
      have hzl : zs0.length = z.2.size := by rw [← hzb, strOfNums_size]
      rw [hzl] at hzo
      have HEQ := Lib.hid hsv'
      clear hsv'
      have hgne : ¬ some g = (Value.slice sa z.2.size sc).ownBlock := own_other_ hzo HGC.out (by decide)
      have HZO : Hid ((wk.drewN nq).ownsRow lo 5 1 (.slice sa z.2.size sc) z.2.size (u8s zs0)) := hzo
      have HM0 : Hid (Mod (fun q => some q = (Value.slice sa z.2.size sc).ownBlock) wk (wk.drewN nq)) := (mod_drewN_ wk nq).mono (by simp)
      have HGNE := Lib.hid hgne
      have HZL := Lib.hid hzl
      have hbnd : (z.2.size : Int) ≤ 9223372036854775807 := by
        have := hzo.2
        rcases this with ⟨e, -⟩ | ⟨g', cap, cur', e, -, -, u1, u2, -, -⟩
        · have e2 : z.2.size = 0 := by injection e
          omega
        · have e2 : cap = sc := by injection e with _ _ e3; exact e3.symm
          unfold maxLen at u2; omega
      clear hzo hzb hgne hzl a0 b0 b3
      generalize hzn : z.2.size = zn at *
      have HZN := Lib.hid hzn
      clear hzn
      have A3 := Lib.hid a3
      clear a3
      generalize wk.drewN nq = wo at *
      go_loopw [48, 6] (fun i _ wi => ∃ (j : Nat) (zs : List Int), j ≤ zn ∧ i = .int .i64 j ∧ Hid (zs.length = zn) ∧ Hid (wi.ownsRow lo 5 1 (.slice sa zn sc) zn (u8s zs)) ∧ Hid (Mod (fun q => some q = (Value.slice sa zn sc).ownBlock) wk wi)) (fun i _ _ => zn - (intOf i).toNat)
      case atStart => exact ⟨0, zs0, Nat.zero_le _, rfl, HZL.out, HZO.out, HM0.out⟩
      case round =>
        obtain ⟨j, zs, hj, rfl, HJL, HJO, HJM⟩ := hrel
        by_cases hjlt : j < zn
        · have hjI : (j : Int) < zn := by omega
          obtain ⟨q, rfl, hqX, ⟨cur2, hqc⟩, hqf, hqn, hqcell⟩ := owns_parts HJO.out (by omega)
          have hjz : j < zs.length := by have := HJL.out; omega
          have d1 := hqcell j (.int .u8 zs[j]) (by simp [u8s, List.getElem?_map, List.getElem?_eq_getElem hjz])
          have d2 := hqf j
          have a3 := HJM.out.cell HGNE.out A3.out
          clear hqcell hqf
          go_wp2_with fail
          exact ⟨⟨j + 1, zs.set j _, by omega, by simp, by simp [Hid, HJL.out], by rw [← u8s_set]; exact owns_setN HJO.out _ _, HJM.out.setCell (.inr (by simp [Value.ownBlock])) _⟩, by simp [intOf]; omega⟩
        · obtain rfl : j = zn := by omega
          have heq : l[k].2 = .slice sa j sc := HEQ.out
          have hmod : Mod (inBytes l) W wr := HK3.out.trans (HJM.out.mono (fun q _ hq => ⟨l[k], List.getElem_mem hk2, by rw [heq]; exact hq.symm⟩))
          have hrow : wr.ownsRow lo 80 2 (.slice (some ⟨g, 0, none⟩) n vc) n (movO.flat l) := ownsRow_mod HK1.out HJM.out (fun q hq hs => by
            have e : g = q := by simpa [Value.ownBlock] using hq
            exact HGNE.out (by rw [e]; exact hs))
          have hfr : ∀ x ∈ l.drop (k + 1), FreshB wr lo x.2 x.1.2 := fun x hx => by
            have hd : l.drop k = l[k] :: l.drop (k + 1) := (List.getElem_cons_drop hk2).symm
            have hp := HP.out.sublist (List.drop_sublist k l)
            rw [hd, List.pairwise_cons] at hp
            refine (HK2.out x (by rw [hd]; exact List.mem_cons_of_mem _ hx)).mod HJM.out (fun q hq hs => ?_)
            exact hp.1 x hx q (by rw [heq]; exact hs.symm) hq
          have HEN : Hid (MoI W lo (.slice (some ⟨g, 0, none⟩) n vc) l (k + 1) wr) := ⟨by rw [HN.out]; exact hrow, hfr, hmod⟩
          clear heq hmod hrow hfr
          go_wp2_with fail
          exact ⟨⟨k + 1, by omega, by simp, HEN.out⟩, by simp [intOf]; omega⟩
    · obtain rfl : k = n := by omega
      go_wp2_with fail
      go_ret
      exact ⟨rfl, HK.out.2.2⟩
end View
end Go.Proofs.YtdfmgneicdpjmaaGreat

/- slices.EqualFunc over moves and over entries. -/
namespace Go.Proofs.YtdfmgneicdpjmaaGreat
open Go.RowKit Go.Shelf
set_option linter.unusedVariables false
set_option linter.unusedSimpArgs false
set_option maxRecDepth 100000
namespace View
open Resp

set_option maxHeartbeats 1000000 in
theorem same1_any (k1 s1 n1 k2 s2 n2 : Int) (v1 v2 : Value) (b1 b2 : ByteArray) (w : World) (h1 : StrAt w v1 b1) (h2 : StrAt w v2 b2) :
    Calls Tryz.prog 70 #[.agg #[.int .u8 k1, .int .i64 s1, .int .i64 n1, v1], .agg #[.int .u8 k2, .int .i64 s2, .int .i64 n2, v2]] w fun e w' => e = .returned (.bool (sameB ⟨k1, s1, n1, b1⟩ ⟨k2, s2, n2, b2⟩)) ∧ Below w.heap.size w w' := by
  obtain ⟨a1, c1, rfl⟩ := h1.form
  obtain ⟨a2, c2, rfl⟩ := h2.form
  have H1 := Lib.hid h1
  have H2 := Lib.hid h2
  clear h1 h2
  have hb2 : Below w.heap.size w ((w.alloc (.cells #[.int .u8 k1, .int .i64 s1, .int .i64 n1, .slice a1 b1.size c1] 38)).alloc (.cells #[.int .u8 k2, .int .i64 s2, .int .i64 n2, .slice a2 b2.size c2] 38)) := ((Below.refl _ _).alloc (Nat.le_refl _) _).alloc (by simp) _
  have HB := Lib.hid hb2
  clear hb2
  by_cases hk : k1 = k2
  · by_cases hs : s1 = s2
    · by_cases hn : n1 = n2
      · subst hk hs hn
        have HE : Hid (sameB ⟨k1, s1, n1, b1⟩ ⟨k1, s1, n1, b2⟩ = decide (b1 = b2)) := by simp [Hid, sameB]
        go_enter Tryz.func70, Tryz.ntmps70
        go_wp2_with fail
        refine (EqualB_any _ _ b1 b2 _ (StrAt.below H1.out HB.out) (StrAt.below H2.out HB.out)).mono ?_; rintro e w' ⟨rfl, rfl⟩
        go_wp2_with fail
        go_ret
        exact ⟨by rw [HE.out]; rfl, HB.out⟩
      · have hn' : (n1 == n2) = false := by simpa using hn
        have HE : Hid (sameB ⟨k1, s1, n1, b1⟩ ⟨k2, s2, n2, b2⟩ = false) := by simp [Hid, sameB, hn]
        subst hk hs
        clear hn
        go_enter Tryz.func70, Tryz.ntmps70
        go_wp2_with fail
        go_ret
        exact ⟨by rw [HE.out]; rfl, HB.out⟩
    · have hs' : (s1 == s2) = false := by simpa using hs
      have HE : Hid (sameB ⟨k1, s1, n1, b1⟩ ⟨k2, s2, n2, b2⟩ = false) := by simp [Hid, sameB, hs]
      subst hk
      clear hs
      go_enter Tryz.func70, Tryz.ntmps70
      go_wp2_with fail
      go_ret
      exact ⟨by rw [HE.out]; rfl, HB.out⟩
  · have hk' : (k1 == k2) = false := by simpa using hk
    have HE : Hid (sameB ⟨k1, s1, n1, b1⟩ ⟨k2, s2, n2, b2⟩ = false) := by simp [Hid, sameB, hk]
    clear hk
    go_enter Tryz.func70, Tryz.ntmps70
    go_wp2_with fail
    go_ret
    exact ⟨by rw [HE.out]; rfl, HB.out⟩


theorem sameB_eq (a b : Ent) : sameB a b = decide (a = b) := by
  rcases a with ⟨k, s, n, x⟩
  rcases b with ⟨k', s', n', x'⟩
  rw [Bool.eq_iff_iff]
  simp [sameB]
  constructor
  · rintro ⟨⟨⟨h1, h2⟩, h3⟩, h4⟩; exact ⟨h1, h2, h3, h4⟩
  · rintro ⟨h1, h2, h3, h4⟩; exact ⟨⟨⟨h1, h2⟩, h3⟩, h4⟩
theorem alike1_any (t1 t2 : Bool) (v1 v2 : Value) (s1 s2 : ByteArray) (w : World) (h1 : StrAt w v1 s1) (h2 : StrAt w v2 s2) :
    Calls Tryz.prog 74 #[.agg #[.bool t1, v1], .agg #[.bool t2, v2]] w fun e w' => e = .returned (.bool (decide ((t1, s1) = (t2, s2)))) ∧ Below w.heap.size w w' := by
  obtain ⟨a1, c1, rfl⟩ := h1.form
  obtain ⟨a2, c2, rfl⟩ := h2.form
  have hb2 : Below w.heap.size w ((w.alloc (.cells #[.bool t1, .slice a1 s1.size c1] 80)).alloc (.cells #[.bool t2, .slice a2 s2.size c2] 80)) := ((Below.refl _ _).alloc (Nat.le_refl _) _).alloc (by simp) _
  have HB := Lib.hid hb2
  have H1 := Lib.hid (StrAt.below h1 hb2)
  have H2 := Lib.hid (StrAt.below h2 hb2)
  clear hb2 h1 h2
  by_cases ht : t1 = t2
  · subst ht
    have HE : Hid (decide ((t1, s1) = (t1, s2)) = decide (s1 = s2)) := by simp [Hid]
    cases t1
    all_goals
      go_enter Tryz.func74, Tryz.ntmps74
      go_wp2_with fail
      refine (EqualB_any _ _ s1 s2 _ H1.out H2.out).mono ?_; rintro e w' ⟨rfl, rfl⟩
      go_wp2_with fail
      go_ret
      exact ⟨by rw [HE.out]; rfl, HB.out⟩
  · have HE : Hid (decide ((t1, s1) = (t2, s2)) = false) := by simp [Hid, ht]
    have ht' : (t1 == t2) = false := by simpa using ht
    cases t1 <;> cases t2 <;> first | (exact absurd rfl ht) | skip
    all_goals
      go_enter Tryz.func74, Tryz.ntmps74
      go_wp2_with fail
      go_ret
      exact ⟨by rw [HE.out]; rfl, HB.out⟩
theorem take_eq_stepG_ {α : Type} {xs ys : List α} {k : Nat} (h : xs.take k = ys.take k) (hx : k < xs.length) (hy : k < ys.length) (he : xs[k] = ys[k]) : xs.take (k + 1) = ys.take (k + 1) := by
  rw [List.take_succ_eq_append_getElem hx, List.take_succ_eq_append_getElem hy, h, he]
theorem MvsAt.mod {S : Nat → Prop} {W W' : World} {a : Option Addr} {n : Nat} {ms : List (Bool × ByteArray)} (h : MvsAt W a n ms) (hm : Mod S W W') (hS : ∀ g, ¬ S g) : MvsAt W' a n ms :=
  ⟨h.1, fun i m hi => by
    obtain ⟨b, o, v, e, h0, h1, h2⟩ := h.2 i m hi
    exact ⟨b, o, v, e, hm.cell (hS _) h0, hm.cell (hS _) h1, h2.mod hm hS⟩⟩
set_option maxHeartbeats 2000000 in
theorem EqualM_any (a1 a2 : Option Addr) (n m c1 c2 : Nat) (xs ys : List (Bool × ByteArray)) (W : World) (h1 : MvsAt W a1 n xs) (h2 : MvsAt W a2 m ys) (hn : n ≤ 1000000) :
    Calls Tryz.prog 73 #[.slice a1 n c1, .slice a2 m c2, .func (.func 74) #[] #[]] W fun e w' => e = .returned (.bool (decide (xs = ys))) ∧ Below W.heap.size W w' := by
  by_cases hnm : n = m
  · have hne : ((n : Int) != (m : Int)) = false := by simp [hnm]
    have HX := Lib.hid h1.1
    have HY := Lib.hid h2.1
    have HNM := Lib.hid hnm
    have H1 := Lib.hid h1
    have H2 := Lib.hid h2
    clear h1 h2 hnm
    have hnI : (n : Int) ≤ 1000000 := by omega
    go_enter Tryz.func73, Tryz.ntmps73
    go_wp2_with fail
    go_loopw [17, 9, 8, 7] (fun i _ _ _ wr => ∃ k : Nat, k ≤ n ∧ i = .int .i64 k ∧ Hid (xs.take k = ys.take k) ∧ Hid (Below W.heap.size W wr)) (fun i _ _ _ _ => n - (intOf i).toNat)
    case atStart => exact ⟨0, Nat.zero_le _, rfl, rfl, Below.refl _ _⟩
    case round =>
      obtain ⟨k, hk, rfl, HT, HB⟩ := hrel
      by_cases hlt : k < n
      · have hltI : (k : Int) < n := by omega
        have hlt2 : k < m := by rw [← HNM.out]; exact hlt
        have hx1 : k < xs.length := by rw [HX.out]; exact hlt
        have hy1 : k < ys.length := by rw [HY.out]; exact hlt2
        have hltJ : (k : Int) < m := by omega
        have hm : Mod (fun _ => False) W wr := Mod.of_same HB.out
        obtain ⟨b1, o1, v1, sa, sc, rfl, l1, q0, q1, s1, rfl⟩ := (H1.out.mod hm (by simp)).at_ hx1
        obtain ⟨b2, o2, v2, ta, tc, rfl, l2, r0, r1, s2, rfl⟩ := (H2.out.mod hm (by simp)).at_ hy1
        have HXY : Hid (∀ h : xs[k] = ys[k], xs.take (k + 1) = ys.take (k + 1)) := fun h => take_eq_stepG_ HT.out hx1 hy1 h
        have HNE : Hid (∀ h : ¬ xs[k] = ys[k], decide (xs = ys) = false) := by
          intro h
          rw [decide_eq_false_iff_not]
          rintro rfl
          exact h rfl
        have HS1 := Lib.hid s1
        have HS2 := Lib.hid s2
        clear hm s1 s2
        generalize xs[k] = x at *
        generalize ys[k] = y at *
        have hmA : Mod (fun _ => False) wr ((wr.alloc (.cells #[.bool x.1, .slice sa x.2.size sc] 80)).alloc (.cells #[.bool y.1, .slice ta y.2.size tc] 80)) := ((Mod.refl _ _).alloc _).alloc _
        have HBA : Hid (Below W.heap.size W ((wr.alloc (.cells #[.bool x.1, .slice sa x.2.size sc] 80)).alloc (.cells #[.bool y.1, .slice ta y.2.size tc] 80))) := HB.out.trans (hmA.below HB.out.size (by simp))
        have HC := Lib.hid (alike1_any x.1 y.1 (.slice sa x.2.size sc) (.slice ta y.2.size tc) x.2 y.2 ((wr.alloc (.cells #[.bool x.1, .slice sa x.2.size sc] 80)).alloc (.cells #[.bool y.1, .slice ta y.2.size tc] 80)) (HS1.out.mod hmA (by simp)) (HS2.out.mod hmA (by simp)))
        clear hmA
        by_cases hxy : x = y
        · have hd : decide ((x.1, x.2) = (y.1, y.2)) = true := by simp [hxy]
          replace HXY := Lib.hid (HXY.out hxy)
          rw [hd] at HC
          clear hd hxy HNE
          go_wp2_with fail
          refine HC.out.mono ?_; rintro e w2 ⟨rfl, hb2⟩
          have HB2 := Lib.hid (below_step_ HBA.out hb2)
          clear hb2
          go_wp2_with fail
          exact ⟨⟨k + 1, by omega, by simp, HXY.out, HB2.out⟩, by simp [intOf]; omega⟩
        · have hd : decide ((x.1, x.2) = (y.1, y.2)) = false := by rw [decide_eq_false_iff_not]; exact hxy
          replace HNE := Lib.hid (HNE.out hxy)
          rw [hd] at HC
          clear hd hxy HXY
          go_wp2_with fail
          refine HC.out.mono ?_; rintro e w2 ⟨rfl, hb2⟩
          have HB2 := Lib.hid (below_step_ HBA.out hb2)
          clear hb2
          go_wp2_with fail
          go_ret
          exact ⟨by rw [HNE.out]; rfl, HB2.out⟩
      · obtain rfl : k = n := by omega
        have HE : Hid (decide (xs = ys) = true) := by
          rw [Hid, decide_eq_true_eq]
          have := HT.out
          rwa [List.take_of_length_le (by rw [HX.out]; exact Nat.le_refl _), List.take_of_length_le (by rw [HY.out, HNM.out]; exact Nat.le_refl _)] at this
        go_wp2_with fail
        go_ret
        exact ⟨by rw [HE.out]; rfl, HB.out⟩
  · have hne : ((n : Int) != (m : Int)) = true := by simp; omega
    have HE : Hid (decide (xs = ys) = false) := by
      rw [Hid, decide_eq_false_iff_not]; rintro rfl; exact hnm (h1.1.symm.trans h2.1)
    clear h1 h2
    go_enter Tryz.func73, Tryz.ntmps73
    go_wp2_with fail
    go_ret
    exact ⟨by rw [HE.out]; rfl, Below.refl _ _⟩
set_option maxHeartbeats 2000000 in
theorem EqualE_any (a1 a2 : Option Addr) (n m c1 c2 : Nat) (xs ys : List Ent) (W : World) (h1 : ScrAt W a1 n xs) (h2 : ScrAt W a2 m ys) (hn : n ≤ 1000000) :
    Calls Tryz.prog 69 #[.slice a1 n c1, .slice a2 m c2, .func (.func 70) #[] #[]] W fun e w' => e = .returned (.bool (decide (xs = ys))) ∧ Below W.heap.size W w' := by
  by_cases hnm : n = m
  · have hne : ((n : Int) != (m : Int)) = false := by simp [hnm]
    have HX := Lib.hid h1.1
    have HY := Lib.hid h2.1
    have HNM := Lib.hid hnm
    have H1 := Lib.hid h1
    have H2 := Lib.hid h2
    clear h1 h2 hnm
    have hnI : (n : Int) ≤ 1000000 := by omega
    go_enter Tryz.func69, Tryz.ntmps69
    go_wp2_with fail
    go_loopw [17, 9, 8, 7] (fun i _ _ _ wr => ∃ k : Nat, k ≤ n ∧ i = .int .i64 k ∧ Hid (xs.take k = ys.take k) ∧ Hid (Below W.heap.size W wr)) (fun i _ _ _ _ => n - (intOf i).toNat)
    case atStart => exact ⟨0, Nat.zero_le _, rfl, rfl, Below.refl _ _⟩
    case round =>
      obtain ⟨k, hk, rfl, HT, HB⟩ := hrel
      by_cases hlt : k < n
      · have hltI : (k : Int) < n := by omega
        have hlt2 : k < m := by rw [← HNM.out]; exact hlt
        have hx1 : k < xs.length := by rw [HX.out]; exact hlt
        have hy1 : k < ys.length := by rw [HY.out]; exact hlt2
        have hltJ : (k : Int) < m := by omega
        have hm : Mod (fun _ => False) W wr := Mod.of_same HB.out
        obtain ⟨b1, o1, v1, sa, sc, rfl, l1, q0, q1, q2, q3, s1, rfl⟩ := (H1.out.mod hm (by simp)).at_ hx1
        obtain ⟨b2, o2, v2, ta, tc, rfl, l2, r0, r1, r2, r3, s2, rfl⟩ := (H2.out.mod hm (by simp)).at_ hy1
        have HXY : Hid (∀ h : xs[k] = ys[k], xs.take (k + 1) = ys.take (k + 1)) := fun h => take_eq_stepG_ HT.out hx1 hy1 h
        have HNE : Hid (∀ h : ¬ xs[k] = ys[k], decide (xs = ys) = false) := by
          intro h
          rw [decide_eq_false_iff_not]
          rintro rfl
          exact h rfl
        have HS1 := Lib.hid s1
        have HS2 := Lib.hid s2
        clear hm s1 s2
        generalize xs[k] = x at *
        generalize ys[k] = y at *
        have hmA : Mod (fun _ => False) wr ((wr.alloc (.cells #[.int .u8 x.kind, .int .i64 x.slot, .int .i64 x.n, .slice sa x.bytes.size sc] 38)).alloc (.cells #[.int .u8 y.kind, .int .i64 y.slot, .int .i64 y.n, .slice ta y.bytes.size tc] 38)) := ((Mod.refl _ _).alloc _).alloc _
        have HBA : Hid (Below W.heap.size W ((wr.alloc (.cells #[.int .u8 x.kind, .int .i64 x.slot, .int .i64 x.n, .slice sa x.bytes.size sc] 38)).alloc (.cells #[.int .u8 y.kind, .int .i64 y.slot, .int .i64 y.n, .slice ta y.bytes.size tc] 38))) := HB.out.trans (hmA.below HB.out.size (by simp))
        have HC := Lib.hid (same1_any x.kind x.slot x.n y.kind y.slot y.n (.slice sa x.bytes.size sc) (.slice ta y.bytes.size tc) x.bytes y.bytes ((wr.alloc (.cells #[.int .u8 x.kind, .int .i64 x.slot, .int .i64 x.n, .slice sa x.bytes.size sc] 38)).alloc (.cells #[.int .u8 y.kind, .int .i64 y.slot, .int .i64 y.n, .slice ta y.bytes.size tc] 38)) (HS1.out.mod hmA (by simp)) (HS2.out.mod hmA (by simp)))
        clear hmA
        by_cases hxy : x = y
        · have hd : sameB ⟨x.kind, x.slot, x.n, x.bytes⟩ ⟨y.kind, y.slot, y.n, y.bytes⟩ = true := by rw [sameB_eq, decide_eq_true_eq]; exact hxy
          replace HXY := Lib.hid (HXY.out hxy)
          rw [hd] at HC
          clear hd hxy HNE
          go_wp2_with fail
          refine HC.out.mono ?_; rintro e w2 ⟨rfl, hb2⟩
          have HB2 := Lib.hid (below_step_ HBA.out hb2)
          clear hb2
          go_wp2_with fail
          exact ⟨⟨k + 1, by omega, by simp, HXY.out, HB2.out⟩, by simp [intOf]; omega⟩
        · have hd : sameB ⟨x.kind, x.slot, x.n, x.bytes⟩ ⟨y.kind, y.slot, y.n, y.bytes⟩ = false := by rw [sameB_eq, decide_eq_false_iff_not]; exact hxy
          replace HNE := Lib.hid (HNE.out hxy)
          rw [hd] at HC
          clear hd hxy HXY
          go_wp2_with fail
          refine HC.out.mono ?_; rintro e w2 ⟨rfl, hb2⟩
          have HB2 := Lib.hid (below_step_ HBA.out hb2)
          clear hb2
          go_wp2_with fail
          go_ret
          exact ⟨by rw [HNE.out]; rfl, HB2.out⟩
      · obtain rfl : k = n := by omega
        have HE : Hid (decide (xs = ys) = true) := by
          rw [Hid, decide_eq_true_eq]
          have := HT.out
          rwa [List.take_of_length_le (by rw [HX.out]; exact Nat.le_refl _), List.take_of_length_le (by rw [HY.out, HNM.out]; exact Nat.le_refl _)] at this
        go_wp2_with fail
        go_ret
        exact ⟨by rw [HE.out]; rfl, HB.out⟩
  · have hne : ((n : Int) != (m : Int)) = true := by simp; omega
    have HE : Hid (decide (xs = ys) = false) := by
      rw [Hid, decide_eq_false_iff_not]; rintro rfl; exact hnm (h1.1.symm.trans h2.1)
    clear h1 h2
    go_enter Tryz.func69, Tryz.ntmps69
    go_wp2_with fail
    go_ret
    exact ⟨by rw [HE.out]; rfl, Below.refl _ _⟩
end View
end Go.Proofs.YtdfmgneicdpjmaaGreat

/- view.Agree and Alike. -/
namespace Go.Proofs.YtdfmgneicdpjmaaGreat
open Go.RowKit Go.Shelf
set_option linter.unusedVariables false
set_option linter.unusedSimpArgs false
set_option maxRecDepth 100000
namespace View
open Resp

theorem bytSh_flat (l : List (ByteArray × Value)) : bytSh.flat l = l.map Prod.snd := by
  induction l with
  | nil => rfl
  | cons x t ih => simp only [Sh.flat, bytSh, List.flatMap_cons] at ih ⊢; rw [ih]; rfl
theorem bytes_rows {W : World} {base : Nat} {v : Value} {l : List (ByteArray × Value)} (h1 : W.ownsRow base 25 1 v l.length (bytSh.flat l)) (h2 : ∀ x ∈ l, StrAt W x.2 x.1) : ∃ a c, v = .slice a l.length c ∧ l.length ≤ c ∧ c ≤ maxLen ∧ RowsAt W a l.length (l.map Prod.fst) := by
  rcases Nat.eq_zero_or_pos l.length with h0 | h0
  · obtain ⟨a, c, rfl⟩ := ownsRow_form h1
    have hl : l = [] := List.length_eq_zero_iff.1 h0
    subst hl
    rcases h1.2 with ⟨e, -⟩ | ⟨g, cap, cur, e, -, -, u1, u2, -, -⟩
    · cases e; exact ⟨none, 0, rfl, Nat.le_refl _, Nat.zero_le _, rfl, fun i u hu => by simp at hu⟩
    · injection e with e1 e2 e3
      subst e3
      exact ⟨a, c, rfl, Nat.zero_le _, u2, rfl, fun i u hu => by simp at hu⟩
  · obtain ⟨a, c, rfl⟩ := ownsRow_form h1
    have hc : c ≤ maxLen := by
      rcases h1.2 with ⟨e, -⟩ | ⟨g, cap, cur, e, -, -, u1, u2, -, -⟩
      · injection e with e1 e2 e3; omega
      · injection e with e1 e2 e3; subst e3; exact u2
    obtain ⟨g, rfl, hg, ⟨cur, hgc⟩, hf, hn, hcell⟩ := owns_parts h1 h0
    refine ⟨_, _, rfl, hn, hc, by simp, fun i u hu => ?_⟩
    have hi : i < l.length := by have := (List.getElem?_eq_some_iff.1 hu).1; simpa using this
    rw [List.getElem?_map, List.getElem?_eq_getElem hi] at hu
    injection hu with hu
    subst hu
    exact ⟨g, 0, _, rfl, by rw [Nat.zero_add]; exact hcell i _ (by rw [bytSh_flat, List.getElem?_map, List.getElem?_eq_getElem hi]; rfl), h2 _ (List.getElem_mem hi)⟩
theorem ORow.rows {W : World} {base : Nat} {v : Value} {l : List (ByteArray × Value)} (h : ORow bytSh W base v l) : ∃ a c, v = .slice a l.length c ∧ l.length ≤ c ∧ c ≤ maxLen ∧ RowsAt W a l.length (l.map Prod.fst) :=
  bytes_rows h.1 (fun x hx => (h.2.1 x hx).str)
theorem movO_rows {W : World} {base : Nat} {v : Value} {l : List ((Bool × ByteArray) × Value)} {T : TypeId} (h1 : W.ownsRow base T 2 v l.length (movO.flat l)) (h2 : ∀ x ∈ l, StrAt W x.2 x.1.2) : ∃ a c, v = .slice a l.length c ∧ l.length ≤ c ∧ c ≤ maxLen ∧ MvsAt W a l.length (l.map Prod.fst) := by
  rcases Nat.eq_zero_or_pos l.length with h0 | h0
  · obtain ⟨a, c, rfl⟩ := ownsRow_form h1
    have hl : l = [] := List.length_eq_zero_iff.1 h0
    subst hl
    rcases h1.2 with ⟨e, -⟩ | ⟨g, cap, cur, e, -, -, u1, u2, -, -⟩
    · cases e; exact ⟨none, 0, rfl, Nat.le_refl _, Nat.zero_le _, rfl, fun i u hu => by simp at hu⟩
    · injection e with e1 e2 e3
      subst e3
      exact ⟨a, c, rfl, Nat.zero_le _, u2, rfl, fun i u hu => by simp at hu⟩
  · obtain ⟨a, c, rfl⟩ := ownsRow_form h1
    have hc : c ≤ maxLen := by
      rcases h1.2 with ⟨e, -⟩ | ⟨g, cap, cur, e, -, -, u1, u2, -, -⟩
      · injection e with e1 e2 e3; omega
      · injection e with e1 e2 e3; subst e3; exact u2
    obtain ⟨g, rfl, hg, ⟨cur, hgc⟩, hf, hn, hcell⟩ := owns_parts h1 h0
    refine ⟨_, _, rfl, hn, hc, by simp, fun i u hu => ?_⟩
    have hi : i < l.length := by have := (List.getElem?_eq_some_iff.1 hu).1; simpa using this
    rw [List.getElem?_map, List.getElem?_eq_getElem hi] at hu
    injection hu with hu
    subst hu
    have e0 := hcell _ _ ((movO_at (j := 0) hi (by omega)).trans rfl)
    have e1 := hcell _ _ ((movO_at (j := 1) hi (by omega)).trans rfl)
    exact ⟨g, 0, _, rfl, by rw [Nat.zero_add]; exact e0, by rw [Nat.zero_add]; exact e1, h2 _ (List.getElem_mem hi)⟩
theorem ORow.mvs {W : World} {base : Nat} {v : Value} {l : List ((Bool × ByteArray) × Value)} (h : ORow movO W base v l) : ∃ a c, v = .slice a l.length c ∧ l.length ≤ c ∧ c ≤ maxLen ∧ MvsAt W a l.length (l.map Prod.fst) :=
  movO_rows h.1 (fun x hx => (h.2.1 x hx).str)

theorem wrg2_ok {slot : Int} {es fs : List Ent} (h : wrg2 slot es fs = 0) : wrg1 slot es = 0 ∧ wrg1 slot fs = 0 := by
  unfold wrg2 at h
  split at h
  · rename_i h1
    refine ⟨?_, h⟩
    have := (wrg1_ok h).2
    unfold wrg1
    rw [if_pos h1, if_neg (by omega)]
  · rename_i h1; exact absurd h h1
theorem framesL_len (slot : Int) (es : List Ent) : (framesL slot es).length ≤ es.length := by
  unfold framesL
  rw [List.length_map]
  exact List.length_filter_le _ _
set_option maxHeartbeats 1000000 in
theorem Agree_no (slot : Int) (a b : Option Addr) (n m c d : Nat) (es fs : List Ent) (W : World) (h : ScrAt W a n es) (h2 : ScrAt W b m fs) (hn : n ≤ maxLen) (hm : m ≤ maxLen) (E : Int) (hE : wrg2 slot es fs = E) (h0 : ¬ E = 0) :
    Calls Tryz.prog 27 #[.slice a n c, .slice b m d, .int .i64 slot] W fun e w' => e = .returned (.tuple #[.bool false, .int .i64 E]) ∧ Below W.heap.size W w' := by
  have HC := Lib.hid (wrong_two slot a n c es b m d fs W h hn h2 hm 27)
  have h0' : (E != 0) = true := by simpa using h0
  rw [hE] at HC
  clear h h2 hE h0
  go_enter Tryz.func27, Tryz.ntmps27
  go_wp2_with fail
  refine HC.out.mono ?_; rintro e W2 ⟨rfl, hb2⟩
  have HB2 := Lib.hid hb2
  clear hb2
  go_wp2_with fail
  go_ret2
  exact ⟨rfl, HB2.out⟩
set_option maxHeartbeats 1000000 in
theorem Agree_yes (slot : Int) (a b : Option Addr) (n m c d : Nat) (es fs : List Ent) (W : World) (h : ScrAt W a n es) (h2 : ScrAt W b m fs) (hn : n ≤ maxLen) (hm : m ≤ maxLen) (hE : wrg2 slot es fs = 0) :
    Calls Tryz.prog 27 #[.slice a n c, .slice b m d, .int .i64 slot] W fun e w' => e = .returned (.tuple #[.bool (decide (framesL slot es = framesL slot fs)), .int .i64 0]) ∧ Below W.heap.size W w' := by
  have HC := Lib.hid (wrong_two slot a n c es b m d fs W h hn h2 hm 27)
  obtain ⟨hE1, hE2⟩ := wrg2_ok hE
  have hl1 := (chk_ok (wrg1_ok hE1).1).1
  have hle := framesL_len slot es
  rw [hE] at HC
  have H := Lib.hid h
  have H2 := Lib.hid h2
  have HE1 := Lib.hid hE1
  have HE2 := Lib.hid hE2
  clear h h2 hE hE1 hE2
  go_enter Tryz.func27, Tryz.ntmps27
  go_wp2_with fail
  refine HC.out.mono ?_; rintro e W2 ⟨rfl, hb2⟩
  have HB2 := Lib.hid hb2
  clear hb2
  go_wp2_with fail
  refine (Frames_yes slot a n c es W2 (H.out.below HB2.out) hn HE1.out).mono ?_; rintro e W3 ⟨v3, l3, rfl, hf3, ho3, hb3⟩
  obtain ⟨a3, c3, rfl, hc3, hcm3, hr3⟩ := ho3.rows
  rw [hf3] at hr3
  have HB3 := Lib.hid (below_step_ HB2.out hb3)
  have HR3 := Lib.hid hr3
  have hlen3 := congrArg List.length hf3
  rw [List.length_map] at hlen3
  have hl3 : l3.length ≤ 4000 := by omega
  clear ho3 hf3 hr3 hb3 hlen3 hle
  generalize l3.length = k3 at *
  go_wp2_with fail
  refine (Frames_yes slot b m d fs W3 (H2.out.below HB3.out) hm HE2.out).mono ?_; rintro e W4 ⟨v4, l4, rfl, hf4, ho4, hb4⟩
  obtain ⟨a4, c4, rfl, hc4, hcm4, hr4⟩ := ho4.rows
  rw [hf4] at hr4
  have HB4 := Lib.hid (below_step_ HB3.out hb4)
  have HR4 := Lib.hid hr4
  have HR3b := Lib.hid (HR3.out.mod (S := fun _ => False) (Mod.of_same hb4) (by simp))
  clear ho4 hf4 hr4 hb4
  generalize l4.length = k4 at *
  go_wp2_with fail
  refine (EqualFunc_any a3 a4 k3 k4 c3 c4 _ _ W4 HR3b.out HR4.out (by omega)).mono ?_; rintro e W5 ⟨rfl, hb5⟩
  have HB5 := Lib.hid (below_step_ HB4.out hb5)
  clear hb5
  go_wp2_with fail
  go_ret2
  exact ⟨rfl, HB5.out⟩
set_option maxHeartbeats 1000000 in
theorem Alike_no (n slot : Int) (a b : Option Addr) (k m c d : Nat) (es fs : List Ent) (W : World) (h : ScrAt W a k es) (h2 : ScrAt W b m fs) (hn : k ≤ maxLen) (hm : m ≤ maxLen) (E : Int) (hE : wrg2 slot es fs = E) (h0 : ¬ E = 0) :
    Calls Tryz.prog 26 #[.slice a k c, .slice b m d, .int .i64 n, .int .i64 slot] W fun e w' => e = .returned (.tuple #[.bool false, .int .i64 E]) ∧ Below W.heap.size W w' := by
  have HC := Lib.hid (wrong_two slot a k c es b m d fs W h hn h2 hm 27)
  have h0' : (E != 0) = true := by simpa using h0
  rw [hE] at HC
  clear h h2 hE h0
  go_enter Tryz.func26, Tryz.ntmps26
  go_wp2_with fail
  refine HC.out.mono ?_; rintro e W2 ⟨rfl, hb2⟩
  have HB2 := Lib.hid hb2
  clear hb2
  go_wp2_with fail
  go_ret2
  exact ⟨rfl, HB2.out⟩
set_option maxHeartbeats 1000000 in
theorem Alike_arg (n slot : Int) (a b : Option Addr) (k m c d : Nat) (es fs : List Ent) (W : World) (h : ScrAt W a k es) (h2 : ScrAt W b m fs) (hn : k ≤ maxLen) (hm : m ≤ maxLen) (hE : wrg2 slot es fs = 0) (h0 : n < 1 ∨ 8 < n ∨ n ≤ slot) :
    Calls Tryz.prog 26 #[.slice a k c, .slice b m d, .int .i64 n, .int .i64 slot] W fun e w' => e = .returned (.tuple #[.bool false, .int .i64 2]) ∧ Below W.heap.size W w' := by
  have HC := Lib.hid (wrong_two slot a k c es b m d fs W h hn h2 hm 27)
  obtain ⟨hE1, hE2⟩ := wrg2_ok hE
  rw [hE] at HC
  have HMV := Lib.hid (fun W2 (hb : Below W.heap.size W W2) => Moves_arg n slot a k c es W2 (h.below hb) hn hE1 h0)
  clear h h2 hE hE1 hE2 h0
  go_enter Tryz.func26, Tryz.ntmps26
  go_wp2_with fail
  refine HC.out.mono ?_; rintro e W2 ⟨rfl, hb2⟩
  have HB2 := Lib.hid hb2
  clear hb2
  go_wp2_with fail
  refine (HMV.out W2 HB2.out).mono ?_; rintro e W3 ⟨rfl, hb3⟩
  have HB3 := Lib.hid (below_step_ HB2.out hb3)
  clear hb3
  go_wp2_with fail
  go_ret2
  exact ⟨rfl, HB3.out⟩
set_option maxHeartbeats 1000000 in
theorem Alike_yes (n slot : Int) (hn1 : 1 ≤ n) (hn8 : n ≤ 8) (hsn : slot < n) (a b : Option Addr) (k m c d : Nat) (es fs : List Ent) (W : World) (h : ScrAt W a k es) (h2 : ScrAt W b m fs) (hn : k ≤ maxLen) (hm : m ≤ maxLen) (hE : wrg2 slot es fs = 0) :
    Calls Tryz.prog 26 #[.slice a k c, .slice b m d, .int .i64 n, .int .i64 slot] W fun e w' => e = .returned (.tuple #[.bool (decide ((mv n slot es).2 = (mv n slot fs).2)), .int .i64 0]) ∧ Below W.heap.size W w' := by
  have HC := Lib.hid (wrong_two slot a k c es b m d fs W h hn h2 hm 27)
  obtain ⟨hE1, hE2⟩ := wrg2_ok hE
  have hl1 := (chk_ok (wrg1_ok hE1).1).1
  have hle := (mv_len n slot es).2
  rw [hE] at HC
  have HM1 := Lib.hid (fun W2 (hb : Below W.heap.size W W2) => Moves_yes n slot hn1 hn8 hsn a k c es W2 (h.below hb) hn hE1)
  have HM2 := Lib.hid (fun W2 (hb : Below W.heap.size W W2) => Moves_yes n slot hn1 hn8 hsn b m d fs W2 (h2.below hb) hm hE2)
  clear h h2 hE hE1 hE2
  go_enter Tryz.func26, Tryz.ntmps26
  go_wp2_with fail
  refine HC.out.mono ?_; rintro e W2 ⟨rfl, hb2⟩
  have HB2 := Lib.hid hb2
  clear hb2
  go_wp2_with fail
  refine (HM1.out W2 HB2.out).mono ?_; rintro e W3 ⟨v3, l3, rfl, hf3, ho3, hb3⟩
  obtain ⟨a3, c3, rfl, hc3, hcm3, hr3⟩ := ho3.row.mvs
  rw [hf3] at hr3
  have HB3 := Lib.hid (below_step_ HB2.out hb3)
  have HR3 := Lib.hid hr3
  have hlen3 := congrArg List.length hf3
  rw [List.length_map] at hlen3
  have hl3 : l3.length ≤ 4000 := by omega
  clear ho3 hf3 hr3 hb3 hlen3 hle
  generalize l3.length = k3 at *
  go_wp2_with fail
  refine (HM2.out W3 HB3.out).mono ?_; rintro e W4 ⟨v4, l4, rfl, hf4, ho4, hb4⟩
  obtain ⟨a4, c4, rfl, hc4, hcm4, hr4⟩ := ho4.row.mvs
  rw [hf4] at hr4
  have HB4 := Lib.hid (below_step_ HB3.out hb4)
  have HR4 := Lib.hid hr4
  have HR3b := Lib.hid (HR3.out.mod (S := fun _ => False) (Mod.of_same hb4) (by simp))
  clear ho4 hf4 hr4 hb4
  generalize l4.length = k4 at *
  go_wp2_with fail
  refine (EqualM_any a3 a4 k3 k4 c3 c4 _ _ W4 HR3b.out HR4.out (by omega)).mono ?_; rintro e W5 ⟨rfl, hb5⟩
  have HB5 := Lib.hid (below_step_ HB4.out hb5)
  clear hb5
  go_wp2_with fail
  go_ret2
  exact ⟨rfl, HB5.out⟩
end View
end Go.Proofs.YtdfmgneicdpjmaaGreat

/- slices.IsSorted over ints. -/
namespace Go.Proofs.YtdfmgneicdpjmaaGreat
open Go.RowKit Go.Shelf
set_option linter.unusedVariables false
set_option linter.unusedSimpArgs false
set_option maxRecDepth 100000
namespace View
open Resp

theorem isNaN_any (x : Int) (w : World) : Calls Tryz.prog 157 #[.int .i64 x] w fun e w' => e = .returned (.bool false) ∧ w = w' := by
  have h : (x != x) = false := by simp
  go_enter Tryz.func157, Tryz.ntmps157
  go_wp2_with fail
  go_ret
  exact ⟨by first | rfl | simp, rfl⟩
theorem Less_any (x y : Int) (w : World) : Calls Tryz.prog 102 #[.int .i64 x, .int .i64 y] w fun e w' => e = .returned (.bool (decide (x < y))) ∧ w = w' := by
  go_enter Tryz.func102, Tryz.ntmps102
  go_wp2_with fail
  refine (isNaN_any _ _).mono ?_; rintro e w' ⟨rfl, rfl⟩
  go_wp2_with fail
  go_ret
  exact ⟨by first | rfl | simp, rfl⟩
theorem Less_same (x y : Int) (b : Bool) (h : decide (x < y) = b) (w : World) : Calls Tryz.prog 102 #[.int .i64 x, .int .i64 y] w fun e w' => e = .returned (.bool b) ∧ w' = w :=
  (Less_any x y w).mono fun e w' hh => ⟨by rw [← h]; exact hh.1, hh.2.symm⟩
def sortedB (zs : List Int) : Bool := decide (∀ i, i < zs.length - 1 → zs[i]?.getD 0 ≤ zs[i + 1]?.getD 0)
set_option maxHeartbeats 1000000 in
theorem IsSorted_any (v : Value) (zs : List Int) (w : World) (h : Reads .i64 w v zs) (hl : zs.length ≤ 1000000) :
    Calls Tryz.prog 66 #[v] w fun e w' => e = .returned (.bool (sortedB zs)) ∧ ∃ n, w' = w.drewN n := by
  obtain ⟨a, c, rfl⟩ := Reads.form_ h
  have H := Lib.hid h
  have hlI : (zs.length : Int) ≤ 1000000 := by omega
  clear h
  go_enter Tryz.func66, Tryz.ntmps66
  go_wp2_with fail
  go_loopw [3] (fun i wr => ∃ k : Int, -1 ≤ k ∧ k ≤ (zs.length : Int) - 1 ∧ i = .int .i64 k ∧ Hid (∀ j : Nat, k ≤ j → j < zs.length - 1 → zs[j]?.getD 0 ≤ zs[j + 1]?.getD 0) ∧ ∃ m, wr = w.drewN m) (fun i _ => (intOf i + 1).toNat)
  case atStart => exact ⟨(zs.length : Int) - 1, by omega, by omega, rfl, fun j h1 h2 => by omega, 0, rfl⟩
  case round =>
    obtain ⟨k, hk, hk2, rfl, HS, m, rfl⟩ := hrel
    by_cases hlt : 0 < k
    · obtain ⟨kn, rfl⟩ : ∃ kn : Nat, k = (kn : Int) + 1 := ⟨(k - 1).toNat, by omega⟩
      have hk3 : kn + 1 < zs.length := by omega
      obtain ⟨b, o, c', e, hc⟩ : ∃ b o c', a = some ⟨b, o, none⟩ ∧ ∀ i, i < zs.length → w.cell? ⟨b, o + i, none⟩ = some (.int .i64 (zs[i]?.getD 0)) := by
        rcases H.out with ⟨a', c', e, hz⟩ | ⟨b, o, c', e, -, hc⟩
        · rw [hz] at hk3; simp at hk3
        · cases e
          exact ⟨b, o, c, rfl, hc⟩
      subst e
      have e1 : (w.drewN m).cell? ⟨b, o + (kn + 1), none⟩ = _ := hc (kn + 1) hk3
      have e2 : (w.drewN m).cell? ⟨b, o + kn, none⟩ = _ := hc kn (by omega)
      generalize hw0 : w.drewN m = w0 at *
      have HW0 := Lib.hid hw0
      clear hw0
      have n1 : (kn : Int) + 1 < zs.length := by omega
      have n2 : (kn : Int) < zs.length := by omega
      have w1 : IntKind.i64.wrap ((kn : Int) + 1 - 1) = (kn : Int) := by rw [IntKind.wrap_i64]; omega
      have w2 : IntKind.i64.wrap (kn : Int) = (kn : Int) := by rw [IntKind.wrap_i64]; omega
      have n3 : 0 ≤ (kn : Int) + 1 := by omega
      have n4 : ((kn : Int) + 1).toNat = kn + 1 := by omega
      by_cases hd : zs[kn + 1]?.getD 0 < zs[kn]?.getD 0
      · have HE : Hid (sortedB zs = false) := by
          unfold sortedB
          rw [Hid, decide_eq_false_iff_not]
          intro h
          have := h kn (by omega)
          omega
        have hd' : decide (zs[kn + 1]?.getD 0 < zs[kn]?.getD 0) = true := decide_eq_true hd
        generalize zs[kn + 1]?.getD 0 = x at *
        generalize zs[kn]?.getD 0 = y at *
        have HLS := Lib.hid (Less_same x y _ hd')
        clear hc hd hd'
        go_wp2_with fail
        go_quiet ((go_at_call 102; exact Calls.quiet_of_same (HLS.out _)))
        go_wp2_with fail
        go_ret
        exact ⟨by rw [HE.out]; rfl, m + nq, by rw [← HW0.out]; simp⟩
      · have HS2 : Hid (∀ j : Nat, (kn : Int) ≤ j → j < zs.length - 1 → zs[j]?.getD 0 ≤ zs[j + 1]?.getD 0) := fun j h1 h2 => by
          by_cases hj : j = kn
          · subst hj; omega
          · exact HS.out j (by omega) h2
        have hd' : decide (zs[kn + 1]?.getD 0 < zs[kn]?.getD 0) = false := decide_eq_false hd
        generalize zs[kn + 1]?.getD 0 = x at *
        generalize zs[kn]?.getD 0 = y at *
        have HLS := Lib.hid (Less_same x y _ hd')
        clear hc hd hd'
        go_wp2_with fail
        go_quiet ((go_at_call 102; exact Calls.quiet_of_same (HLS.out _)))
        go_wp2_with fail
        refine ⟨⟨(kn : Int), by omega, by omega, by simp, HS2.out, m + nq, by rw [← HW0.out]; simp⟩, by simp [intOf]; try omega⟩
    · have HE : Hid (sortedB zs = true) := by
        unfold sortedB
        rw [Hid, decide_eq_true_eq]
        intro i hi
        exact HS.out i (by omega) hi
      have hlt' : ¬ 0 < k := hlt
      go_wp2_with fail
      go_ret
      exact ⟨by rw [HE.out]; rfl, m, rfl⟩
end View
end Go.Proofs.YtdfmgneicdpjmaaGreat

/- view.Mix: what it refuses; the plain law. -/
namespace Go.Proofs.YtdfmgneicdpjmaaGreat
open Go.RowKit Go.Shelf
set_option linter.unusedVariables false
set_option linter.unusedSimpArgs false
set_option maxRecDepth 100000
namespace View
open Resp

def mixP : Nat → List Ent → List (Ent × Int) → List Ent
  | _, [], ps => ps.map Prod.fst
  | k, e :: t, ps => (ps.takeWhile fun p => decide (p.2 ≤ (k : Int))).map Prod.fst ++ e :: mixP (k + 1) t (ps.dropWhile fun p => decide (p.2 ≤ (k : Int)))
theorem mixP_take {k : Nat} {e : Ent} {t : List Ent} {p : Ent × Int} {ps : List (Ent × Int)} (h : p.2 ≤ (k : Int)) : mixP k (e :: t) (p :: ps) = p.1 :: mixP k (e :: t) ps := by
  simp [mixP, h]
theorem mixP_stop {k : Nat} {e : Ent} {t : List Ent} {ps : List (Ent × Int)} (h : ∀ p ∈ ps.head?, ¬ p.2 ≤ (k : Int)) : mixP k (e :: t) ps = e :: mixP (k + 1) t ps := by
  cases ps with
  | nil => simp [mixP]
  | cons p ps =>
    have h1 := h p rfl
    simp [mixP, h1]
def atOk (n m : Nat) (zs : List Int) : Bool := zs.length == m && (sortedB zs && (zs.length == 0 || (decide ((0 : Int) ≤ zs[0]?.getD (0 : Int)) && decide ((zs[zs.length - 1]?.getD (0 : Int) : Int) ≤ (n : Int)))))
theorem reads_cells_ {W : World} {a : Option Addr} {n c : Nat} {zs : List Int} (h : Reads .i64 W (.slice a n c) zs) (h0 : 0 < zs.length) : ∃ b o, a = some ⟨b, o, none⟩ ∧ n = zs.length ∧ ∀ i, i < zs.length → W.cell? ⟨b, o + i, none⟩ = some (.int .i64 (zs[i]?.getD 0)) := by
  rcases h with ⟨a', c', e, hz⟩ | ⟨b, o, c', e, -, hc⟩
  · rw [hz] at h0; simp at h0
  · cases e
    exact ⟨b, o, rfl, rfl, hc⟩
set_option maxHeartbeats 1000000 in
theorem Mix_no (a b za : Option Addr) (n m zn c d zc : Nat) (es fs : List Ent) (W : World) (h : ScrAt W a n es) (h2 : ScrAt W b m fs) (hn : n ≤ maxLen) (hm : m ≤ maxLen) (E : Int) (hE : wrg2 0 es fs = E) (h0 : ¬ E = 0) :
    Calls Tryz.prog 23 #[.slice a n c, .slice b m d, .slice za zn zc] W fun e w' => e = .returned (.tuple #[.slice none 0 0, .int .i64 E]) ∧ Below W.heap.size W w' := by
  have HC := Lib.hid (wrong_two 0 a n c es b m d fs W h hn h2 hm 27)
  have h0' : (E != 0) = true := by simpa using h0
  rw [hE] at HC
  clear h h2 hE h0
  go_enter Tryz.func23, Tryz.ntmps23
  go_wp2_with fail
  refine HC.out.mono ?_; rintro e W2 ⟨rfl, hb2⟩
  have HB2 := Lib.hid hb2
  clear hb2
  go_wp2_with fail
  go_ret2
  exact ⟨rfl, HB2.out⟩
theorem below_drewN2_ {B : Nat} {a w : World} (h : Below B a w) : ∀ k, Below B a (w.drewN k) := below_drewN_ h
set_option maxHeartbeats 4000000 in
theorem Mix_arg (a b za : Option Addr) (n m zn c d zc : Nat) (es fs : List Ent) (zs : List Int) (W : World) (h : ScrAt W a n es) (h2 : ScrAt W b m fs) (hn : n ≤ maxLen) (hm : m ≤ maxLen) (hz : Reads .i64 W (.slice za zn zc) zs) (hzl : zs.length ≤ 1000000) (hE : wrg2 0 es fs = 0) (h0 : atOk n m zs = false) :
    Calls Tryz.prog 23 #[.slice a n c, .slice b m d, .slice za zn zc] W fun e w' => e = .returned (.tuple #[.slice none 0 0, .int .i64 2]) ∧ Below W.heap.size W w' := by
  have HC := Lib.hid (wrong_two 0 a n c es b m d fs W h hn h2 hm 27)
  obtain ⟨hE1, hE2⟩ := wrg2_ok hE
  have hl1 := (chk_ok (wrg1_ok hE1).1).1
  have hl2 := (chk_ok (wrg1_ok hE2).1).1
  rw [h.1] at hl1
  rw [h2.1] at hl2
  rw [hE] at HC
  have hzf : zn = zs.length := by
    obtain ⟨a', c', e⟩ := Reads.form_ hz
    injection e with _ e2 _
  subst hzf
  have hzI : (zs.length : Int) ≤ 1000000 := by omega
  have hnI : (n : Int) ≤ 4000 := by omega
  have hmI : (m : Int) ≤ 4000 := by omega
  have HZ := Lib.hid hz
  clear h h2 hE hE1 hE2 hz
  by_cases hlm : zs.length = m
  · have hne : ((zs.length : Int) != (m : Int)) = false := by simp [hlm]
    have HIS := Lib.hid (fun W2 (hb : Below W.heap.size W W2) => IsSorted_any (.slice za zs.length zc) zs W2 (HZ.out.mod (S := fun _ => False) (Mod.of_same hb) (by simp)) hzl)
    have HCE := Lib.hid (fun (h0 : 0 < zs.length) => reads_cells_ HZ.out h0)
    cases hs : sortedB zs with
    | false =>
      rw [hs] at HIS
      clear h0 hs hlm
      go_enter Tryz.func23, Tryz.ntmps23
      go_wp2_with fail
      refine HC.out.mono ?_; rintro e W2 ⟨rfl, hb2⟩
      have HB2 := Lib.hid hb2
      clear hb2
      go_wp2_with fail
      refine (HIS.out W2 HB2.out).mono ?_; rintro e W3 ⟨rfl, q, rfl⟩
      go_wp2_with fail
      go_ret2
      exact ⟨rfl, below_drewN_ HB2.out q⟩
    | true =>
      rw [hs] at HIS
      have hpos : 0 < zs.length := by
        rcases Nat.eq_zero_or_pos zs.length with h | h
        · simp [atOk, hlm, hs, h] at h0
          omega
        · exact h
      obtain ⟨zb, zo, rfl, -, hcell⟩ := HCE.out hpos
      have hposI : (0 : Int) < zs.length := by omega
      have w1 : IntKind.i64.wrap ((zs.length : Int) - 1) = ((zs.length - 1 : Nat) : Int) := by rw [IntKind.wrap_i64]; omega
      have e0 := hcell 0 hpos
      have e1 := hcell (zs.length - 1) (by omega)
      simp only [Nat.add_zero] at e0
      have hbl := World.block_lt_of_cell? W _ e0
      clear hcell HCE
      by_cases hz0 : zs[0]?.getD 0 < 0
      · generalize zs[0]?.getD 0 = x at *
        clear h0 hs hlm e1
        go_enter Tryz.func23, Tryz.ntmps23
        go_wp2_with fail
        refine HC.out.mono ?_; rintro e W2 ⟨rfl, hb2⟩
        have HB2 := Lib.hid hb2
        have e0' := (hb2.cell (p := ⟨zb, zo, none⟩) hbl).trans e0
        clear hb2 e0
        go_wp2_with fail
        refine (HIS.out W2 HB2.out).mono ?_; rintro e W3 ⟨rfl, q, rfl⟩
        go_wp2_with fail
        go_ret2
        exact ⟨rfl, below_drewN_ HB2.out q⟩
      · have hz1 : (n : Int) < zs[zs.length - 1]?.getD 0 := by
          simp [atOk, hlm, hs] at h0
          rw [hlm]
          exact h0.2 (by omega)
        generalize zs[0]?.getD 0 = x at *
        generalize zs[zs.length - 1]?.getD 0 = y at *
        have hx0 : 0 ≤ x := by omega
        have n1 : ((zs.length - 1 : Nat) : Int) < zs.length := by omega
        have n2 : (zs.length : Int) - 1 = ((zs.length - 1 : Nat) : Int) := by omega
        have N2 := Lib.hid n2
        generalize zs.length - 1 = z1 at *
        clear h0 hs hlm hz0 n2
        go_enter Tryz.func23, Tryz.ntmps23
        go_wp2_with fail
        refine HC.out.mono ?_; rintro e W2 ⟨rfl, hb2⟩
        have HB2 := Lib.hid hb2
        have e0' := (hb2.cell (p := ⟨zb, zo, none⟩) hbl).trans e0
        have e1' := (hb2.cell (p := ⟨zb, zo + z1, none⟩) hbl).trans e1
        clear hb2 e0 e1
        go_wp2_with fail
        refine (HIS.out W2 HB2.out).mono ?_; rintro e W3 ⟨rfl, q, rfl⟩
        have n2 := N2.out
        go_wp2_with fail
        go_ret2
        exact ⟨rfl, below_drewN_ HB2.out q⟩
  · have hne : ((zs.length : Int) != (m : Int)) = true := by rw [bne_iff_ne]; omega
    clear h0 hlm
    go_enter Tryz.func23, Tryz.ntmps23
    go_wp2_with fail
    refine HC.out.mono ?_; rintro e W2 ⟨rfl, hb2⟩
    have HB2 := Lib.hid hb2
    clear hb2
    go_wp2_with fail
    go_ret2
    exact ⟨rfl, HB2.out⟩
end View
end Go.Proofs.YtdfmgneicdpjmaaGreat

/- view.Mix. -/
namespace Go.Proofs.YtdfmgneicdpjmaaGreat
open Go.RowKit Go.Shelf
set_option linter.unusedVariables false
set_option linter.unusedSimpArgs false
set_option maxRecDepth 100000
namespace View
open Resp

theorem ScrAt.drop {W : World} {b o : Nat} {n : Nat} {es : List Ent} (h : ScrAt W (some ⟨b, o, none⟩) n es) {k : Nat} (hk : k ≤ n) : ScrAt W (some ⟨b, o + k * 4, none⟩) (n - k) (es.drop k) :=
  ⟨by rw [List.length_drop, h.1], fun i u hu => by
    rw [List.getElem?_drop] at hu
    obtain ⟨b', o', e, hc⟩ := h.2 _ u hu
    cases e
    refine ⟨b, o + k * 4, rfl, ?_⟩
    rw [show o + k * 4 + i * 4 = o + (k + i) * 4 by omega]
    exact hc⟩
/-- Behind k entries of the one script and i of the other. -/
structure MxI (W : World) (X Y : Nat) (cv : Value) (CL : List (Ent × Value)) (R es : List Ent) (ps : List (Ent × Int)) (k i : Nat) (ov : Value) (L : List (Ent × Value)) (wr : World) : Prop where
  row : wr.ownsRow Y 38 4 ov L.length (entCs L)
  fresh : ∀ x ∈ L, FreshB wr X x.2 x.1.bytes
  apart : L.Pairwise fun x y => ∀ g, x.2.ownBlock = some g → ¬ y.2.ownBlock = some g
  src : ∀ x ∈ L, ∀ g, x.2.ownBlock = some g → (∃ j, ∃ h : j < CL.length, j < k ∧ CL[j].2.ownBlock = some g) ∨ Y ≤ g
  crow : wr.ownsRow X 38 4 cv CL.length (entCs CL)
  cfresh : ∀ x ∈ CL, FreshB wr X x.2 x.1.bytes
  below : Below X W wr
  size : Y ≤ wr.heap.size
  eq : L.map Prod.fst ++ mixP k (es.drop k) (ps.drop i) = R
/-- What is known of the one script's copy, for good. -/
structure MxC (X Y : Nat) (cv : Value) (CL : List (Ent × Value)) : Prop where
  apart : CL.Pairwise fun x y => ∀ g, x.2.ownBlock = some g → ¬ y.2.ownBlock = some g
  low : ∀ x ∈ CL, ∀ g, x.2.ownBlock = some g → g < Y
  clow : ∀ g, cv.ownBlock = some g → g < Y
  le : X ≤ Y
theorem MxI.mod {W : World} {X Y : Nat} {cv : Value} {CL : List (Ent × Value)} {R es : List Ent} {ps : List (Ent × Int)} {k i : Nat} {ov : Value} {L : List (Ent × Value)} {wr w' : World} (h : MxI W X Y cv CL R es ps k i ov L wr) (hm : Mod (fun _ => False) wr w') (hX : X ≤ wr.heap.size) : MxI W X Y cv CL R es ps k i ov L w' where
  row := ownsRow_mod h.row hm (by simp)
  fresh := fun x hx => (h.fresh x hx).mod hm (by simp)
  apart := h.apart
  src := h.src
  crow := ownsRow_mod h.crow hm (by simp)
  cfresh := fun x hx => (h.cfresh x hx).mod hm (by simp)
  below := h.below.trans (hm.below hX (by simp))
  size := Nat.le_trans h.size hm.size
  eq := h.eq
/-- The world behind an append to the row. -/
theorem MxI.grown {W : World} {X Y : Nat} {cv : Value} {CL : List (Ent × Value)} {R es : List Ent} {ps : List (Ent × Int)} {k i k' i' : Nat} {ov : Value} {L : List (Ent × Value)} {wr w3 : World} (hC : MxC X Y cv CL) (h : MxI W X Y cv CL R es ps k i ov L wr) {e : Ent} {v ov' : Value} (hv : FreshB wr X v e.bytes)
    (hd : ∀ x ∈ L, ∀ g, x.2.ownBlock = some g → ¬ v.ownBlock = some g) (hs : ∀ g, v.ownBlock = some g → (∃ j, ∃ h : j < CL.length, j < k' ∧ CL[j].2.ownBlock = some g) ∨ Y ≤ g) (hk : k ≤ k')
    (ho : w3.ownsRow Y 38 4 ov' (L.length + 1) (entCs L ++ entC e v)) (hm : Mod (fun q => some q = ov.ownBlock) wr w3) (hX : X ≤ wr.heap.size)
    (hR : mixP k (es.drop k) (ps.drop i) = e :: mixP k' (es.drop k') (ps.drop i')) : MxI W X Y cv CL R es ps k' i' ov' (L ++ [(e, v)]) w3 := by
  have hov : ∀ q, some q = ov.ownBlock → Y ≤ q := fun q h1 => ownBlock_ge_ h.row h1.symm
  refine ⟨by simpa [entCs_append, entCs_one] using ho, fun x hx => ?_, ?_, fun x hx g hg => ?_, ?_, fun x hx => ?_, ?_, Nat.le_trans h.size hm.size, ?_⟩
  · rcases List.mem_append.1 hx with hx | hx
    · obtain ⟨zs, h5, h6⟩ := h.fresh x hx
      exact ⟨zs, owns_keep_ h5 h.row hm (by decide), h6⟩
    · obtain rfl := List.mem_singleton.1 hx
      obtain ⟨zs, h5, h6⟩ := hv
      exact ⟨zs, owns_keep_ h5 h.row hm (by decide), h6⟩
  · rw [List.pairwise_append]
    refine ⟨h.apart, List.pairwise_singleton _ _, fun x hx y hy => ?_⟩
    obtain rfl := List.mem_singleton.1 hy
    exact hd x hx
  · rcases List.mem_append.1 hx with hx | hx
    · rcases h.src x hx g hg with ⟨j, h1, h2, h3⟩ | h1
      · exact .inl ⟨j, h1, by omega, h3⟩
      · exact .inr h1
    · obtain rfl := List.mem_singleton.1 hx
      exact hs g hg
  · exact ownsRow_mod h.crow hm (fun g hg h1 => by have := hC.clow g hg; have := hov g h1; omega)
  · obtain ⟨zs, h5, h6⟩ := h.cfresh x hx
    exact ⟨zs, owns_keep_ h5 h.row hm (by decide), h6⟩
  · exact h.below.trans (hm.below hX (fun q hq h1 => by have := hov q h1; have := hC.le; omega))
  · rw [← h.eq, hR, List.map_append, List.append_assoc]
    rfl
end View
end Go.Proofs.YtdfmgneicdpjmaaGreat
