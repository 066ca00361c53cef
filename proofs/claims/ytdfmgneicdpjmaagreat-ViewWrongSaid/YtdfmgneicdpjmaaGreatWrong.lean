import Derived.Test.YtdfmgneicdpjmaaGreatW50
import Derived.Test.YtdfmgneicdpjmaaGreatInsE
import Derived.Lib.MinMax
namespace Go.Proofs.YtdfmgneicdpjmaaGreat
open Go.RowKit Go.Shelf
set_option linter.unusedVariables false
set_option linter.unusedSimpArgs false
set_option maxRecDepth 100000
namespace View
open Resp
def odd : Ent := ⟨4, 0, 0, ByteArray.empty⟩
def badS (es : List Ent) (i : Nat) : List Ent := es.take i ++ [odd] ++ es.drop i
theorem odd_bad : cleanB odd = false := by decide
theorem badS_len {es : List Ent} {i : Nat} (h : i ≤ es.length) : (badS es i).length = es.length + 1 := by
 simp [badS]; omega
theorem badS_chk {es : List Ent} {i : Nat} (hc : Cln es) (hl : es.length ≤ 60) (hi : i ≤ es.length) : chkI (badS es i) = (i : Int) ∧ chkE (badS es i) = 410 := by
 have h1 : badAt (badS es i) = i := by
   unfold badAt badS
   rw [List.append_assoc, List.findIdx_append]
   have h2 : ¬ List.findIdx (fun e => !cleanB e) (es.take i) < (es.take i).length := by
     intro hb
     have h3 := List.findIdx_getElem (w := hb)
     have h4 := hc.2 _ (List.mem_of_mem_take (List.getElem_mem hb))
     rw [h4] at h3; cases h3
   rw [if_neg h2, List.singleton_append, List.findIdx_cons, odd_bad]
   simp
   omega
 have h2 := badS_len (i := i) hi
 unfold chkI chkE
 rw [h1, h2, if_neg (by omega), if_pos (by omega), if_neg (by omega), if_pos (by omega)]
 exact ⟨rfl, rfl⟩
theorem wrg1_bad {s : Int} {es : List Ent} (h : chkE es = 410) : wrg1 s es = 410 := by
 unfold wrg1
 rw [if_neg (by rw [h]; decide), h]
theorem wrg1_out {s : Int} {es : List Ent} (h : Cln es) (hs : s < 0 ∨ 4294967295 < s) : wrg1 s es = 2 := by
 unfold wrg1
 rw [if_pos h.chk, if_pos hs]
theorem wrg2_out {s : Int} {es fs : List Ent} (h : Cln es) (h' : Cln fs) (hs : s < 0 ∨ 4294967295 < s) : wrg2 s es fs = 2 := by
 unfold wrg2
 rw [if_pos h.chk, wrg1_out h' hs]
theorem wrg2_bad {s : Int} {es fs : List Ent} (h : Cln es) (h' : chkE fs = 410) : wrg2 s es fs = 410 := by
 unfold wrg2
 rw [if_pos h.chk, wrg1_bad h']
theorem entCs_take : ∀ (l : List (Ent × Value)) (i : Nat), (entCs l).take (i * 4) = entCs (l.take i) := by
 intro l i
 by_cases hi : i ≤ l.length
 · have h1 : l = l.take i ++ l.drop i := (List.take_append_drop i l).symm
   conv => lhs; rw [h1, entCs_append]
   rw [List.take_left' (by rw [entCs_length, List.length_take_of_le hi])]
 · rw [List.take_of_length_le (by rw [entCs_length]; omega), List.take_of_length_le (by omega)]
theorem entCs_drop : ∀ (l : List (Ent × Value)) (i : Nat), (entCs l).drop (i * 4) = entCs (l.drop i) := by
 intro l i
 by_cases hi : i ≤ l.length
 · have h1 : l = l.take i ++ l.drop i := (List.take_append_drop i l).symm
   conv => lhs; rw [h1, entCs_append]
   rw [List.drop_left' (by rw [entCs_length, List.length_take_of_le hi])]
 · rw [List.drop_of_length_le (by rw [entCs_length]; omega), List.drop_of_length_le (by omega)]
   rfl
theorem OwnScr.put_odd {w w' : World} {base i : Nat} {v v' : Value} {l : List (Ent × Value)} (h : Grown w base v l) (ho : w'.ownsRow base 38 4 v' (l.length + 1) ((entCs l).take (i * 4) ++ [.int .u8 4, .int .i64 0, .int .i64 0, .slice none 0 0] ++ (entCs l).drop (i * 4))) (hm : Mod (fun q => some q = v.ownBlock) w w') (hi : i ≤ l.length) :
   OwnScr w' base v' (badS (l.map Prod.fst) i) := by
 have hk : ∀ x ∈ l, FreshB w' base x.2 x.1.bytes := fun x hx => by
   obtain ⟨zs, h5, h6⟩ := h.2.1 x hx
   exact ⟨zs, owns_keep_ h5 h.1 hm (by decide), h6⟩
 refine ⟨l.take i ++ [(odd, .slice none 0 0)] ++ l.drop i, ?_, ?_, ?_, ?_⟩
 · simp [badS, List.map_take, List.map_drop]
 · have h1 : entCs (l.take i ++ [(odd, .slice none 0 0)] ++ l.drop i) = (entCs l).take (i * 4) ++ [.int .u8 4, .int .i64 0, .int .i64 0, .slice none 0 0] ++ (entCs l).drop (i * 4) := by
     rw [entCs_append, entCs_append, entCs_take, entCs_drop]
     rfl
   have h2 : (l.take i ++ [(odd, Value.slice none 0 0)] ++ l.drop i).length = l.length + 1 := by simp; omega
   rw [h1, h2]
   exact ho
 · intro x hx
   rcases List.mem_append.1 hx with hx | hx
   · rcases List.mem_append.1 hx with hx | hx
     · exact hk x (List.mem_of_mem_take hx)
     · rw [List.mem_singleton.1 hx]; exact FreshB.nul _ _
   · exact hk x (List.mem_of_mem_drop hx)
 · have hp := h.2.2
   have h0 : ∀ g, (Value.slice none 0 0).ownBlock = some g → False := fun g hg => by cases hg
   rw [← List.take_append_drop i l, List.pairwise_append] at hp
   rw [List.append_assoc, List.pairwise_append]
   refine ⟨hp.1, ?_, ?_⟩
   · rw [List.singleton_append, List.pairwise_cons]
     exact ⟨fun y hy g hg => (h0 g hg).elim, hp.2.1⟩
   · intro x hx y hy
     rcases List.mem_append.1 hy with hy | hy
     · rw [List.mem_singleton.1 hy]
       exact fun g _ hg => h0 g hg
     · exact hp.2.2 x hx y hy
theorem Lacks_e (a : Option Addr) (n c : Nat) (k s E : Int) (W : World) (h0 : ¬ E = 0) (h : Calls Tryz.prog 29 #[.slice a n c, .int .i64 k, .int .i64 s] W fun e w' => e = .returned (.tuple #[.slice none 0 0, .int .i64 E]) ∧ Below W.heap.size W w') :
   Calls Tryz.prog 28 #[.slice a n c, .int .i64 k, .int .i64 s] W fun e w' => e = .returned (.tuple #[.int .i64 0, .int .i64 E]) ∧ Below W.heap.size W w' := by
 have H := Lib.hid h
 have h0' : (E != 0) = true := by simpa using h0
 clear h
 go_enter Tryz.func28, Tryz.ntmps28
 go_wp2_with fail
 refine H.out.mono ?_; rintro e W2 ⟨rfl, hb2⟩
 have HB2 := Lib.hid hb2
 clear hb2
 go_wp2_with fail
 go_ret2
 exact ⟨rfl, HB2.out⟩
theorem reads_lit1_ {W : World} {B : Nat} {T : TypeId} {a : Int} (h : W.heap[B]? = some (.cells #[.int .i64 a] T)) : Reads .i64 W (.slice (some ⟨B, 0, none⟩) 1 1) [a] := by
 refine .inr ⟨B, 0, 1, rfl, by unfold maxLen; simp, fun i hi => ?_⟩
 have hi0 : i = 0 := by simp at hi; omega
 subst hi0
 simp [World.cell?, h]
theorem reads_lit2_ {W : World} {B : Nat} {T : TypeId} {a b : Int} (h : W.heap[B]? = some (.cells #[.int .i64 a, .int .i64 b] T)) : Reads .i64 W (.slice (some ⟨B, 0, none⟩) 2 2) [a, b] := by
 refine .inr ⟨B, 0, 2, rfl, by unfold maxLen; simp, fun i hi => ?_⟩
 have hi0 : i = 0 ∨ i = 1 := by simp at hi; omega
 rcases hi0 with rfl | rfl <;> simp [World.cell?, h]
theorem i64_wf {z : Int} (h : (Lit.int .i64 z).wf = true) : -9223372036854775808 ≤ z ∧ z < 9223372036854775808 := by
 have h1 : IntKind.i64.min = -9223372036854775808 := rfl
 have h2 : IntKind.i64.max = 9223372036854775807 := rfl
 simp [Lit.wf, h1, h2] at h
 omega
theorem tick_clean : Cln [⟨2, 0, 0, ByteArray.empty⟩] ∧ Cln [⟨2, 0, 0, ByteArray.empty⟩, ⟨2, 0, 0, ByteArray.empty⟩] :=
 ⟨⟨by decide, by decide⟩, ⟨by decide, by decide⟩⟩
set_option maxHeartbeats 4000000 in
theorem wrong_law (a0 : Option Addr) (n0 c0 : Nat) (l0 : List Sml) (at_ n : Int) (ha0 : 0 ≤ at_) (ha1 : at_ ≤ 255) (hn0 : -9223372036854775808 ≤ n) (hn1 : n < 9223372036854775808) (W : World) (h0 : SmallAt W a0 n0 l0) (hc0 : n0 ≤ c0) (hd0 : c0 ≤ maxLen) (hb0 : ∀ e ∈ l0, e.bytes.size ≤ 140737488351232) :
   Calls Tryz.prog 10 #[.slice a0 n0 c0, .int .u8 at_, .int .i64 n] W fun e w' => e = .returned (.bool true) ∧ Below W.heap.size W w' := by
 have HM0 := Lib.hid (Made_cl a0 n0 c0 l0 W h0 hc0 hd0 hb0)
 clear h0 hb0 hc0 hd0
 go_enter Tryz.func10, Tryz.ntmps10
 go_wp2_with fail
 refine HM0.out.mono ?_; rintro e w1 ⟨b, m, d, es, rfl, hm, ho, hl, hcl, hb1⟩
 have hm60 : m ≤ 60 := by omega
 have hmx : m ≤ maxLen := by unfold maxLen; omega
 have hmx1 : m + 1 ≤ maxLen := by unfold maxLen; omega
 have HB1 := Lib.hid hb1
 have HX1 := Lib.hid ho.at_
 have HCX := Lib.hid hcl
 clear hm ho hl hcl hb1 HM0
 obtain ⟨i, hi⟩ : ∃ i : Nat, at_ % ((m : Int) + 1) = (i : Int) := ⟨(at_ % ((m : Int) + 1)).toNat, by have := Int.emod_nonneg at_ (b := (m : Int) + 1) (by omega); omega⟩
 have him : i ≤ m := by have := Int.emod_lt_of_pos at_ (b := (m : Int) + 1) (by omega); omega
 have himI : (i : Int) ≤ (m : Int) := by omega
 have htm : at_.tmod ((m : Int) + 1) = (i : Int) := by rw [Int.tmod_eq_emod_of_nonneg ha0]; exact hi
 have hz : ¬ (m : Int) + 1 = 0 := by omega
 clear hi
 go_upto_region 3 with fail
 clear htm hz
 have hmin : min (i : Int) (m : Int) = (i : Int) := by omega
 go_wp2_with fail
 refine (Copy_any b m d es w1 HX1.out (by omega) (fun e he => clean_bytes (HCX.out.2 e he))).mono ?_; rintro e w2 ⟨cv, rfl, hcp, hb2⟩
 have HA2 := Lib.hid hb2
 obtain ⟨l, hl, hg⟩ := hcp.grown
 obtain ⟨ca, cd, rfl⟩ := ownsRow_form hg.1
 have hlm : l.length = m := by rw [← List.length_map (f := Prod.fst), hl]; exact HX1.out.1
 rw [hlm] at hg ⊢
 have HG2 := Lib.hid hg
 have HLE := Lib.hid hl
 have HLM := Lib.hid hlm
 clear hcp hb2 hl hg hlm
 go_wp2_with fail
 refine (Copy_any b m d es w2 (HX1.out.below HA2.out) (by omega) (fun e he => clean_bytes (HCX.out.2 e he))).mono ?_; rintro e w3 ⟨cv3, rfl, hcp3, hb3⟩
 have HA3 : Hid (Below w1.heap.size w1 w3) := HA2.out.trans (hb3.mono HA2.out.size)
 obtain ⟨a3, c3, rfl⟩ := hcp3.form
 have he3 : es.length = m := HX1.out.1
 rw [he3]
 have HG3 : Hid (Grown w3 w1.heap.size (.slice ca m cd) l) := HG2.out.modLow (Mod.of_same (S := fun _ => False) hb3) (by simp)
 clear hcp3 hb3 he3 HA2 HG2
 go_wp2_with fail
 have hm4 : Mod (fun _ => False) w3 (w3.alloc (.cells #[.int .u8 4, .int .i64 0, .int .i64 0, .slice none 0 0] 38)) := (Mod.refl _ _).alloc _
 have HG4 := Lib.hid (HG3.out.modLow hm4 (by simp))
 have HA4 : Hid (Below w1.heap.size w1 (w3.alloc (.cells #[.int .u8 4, .int .i64 0, .int .i64 0, .slice none 0 0] 38))) := HA3.out.trans (hm4.below HA3.out.size (by simp))
 have hv4 := World.alloc_heap_new w3 (.cells #[.int .u8 4, .int .i64 0, .int .i64 0, .slice none 0 0] 38)
 have hW4 := HA4.out.size
 have HNE : Hid (¬ (Value.slice ca m cd).ownBlock = some w3.heap.size) := fun e => by
   have := ownBlock_lt_ HG3.out.1 e
   omega
 have hrow := HG4.out.1
 rw [HLM.out] at hrow
 clear hm4 HG3 HA3
 generalize w3.alloc (.cells #[.int .u8 4, .int .i64 0, .int .i64 0, .slice none 0 0] 38) = w4 at *
 generalize w3.heap.size = vb at *
 have hone : ∀ u ∈ entCs l, u.oneCell' = true := by
   intro u hu
   simp only [entCs, List.mem_flatMap] at hu
   obtain ⟨x, hxl, hx⟩ := hu
   obtain ⟨zs, h5, -⟩ := HG4.out.2.1 x hxl
   obtain ⟨xa, xc, hxe⟩ := ownsRow_form h5
   simp only [entC, List.mem_cons, List.not_mem_nil, or_false] at hx
   rcases hx with rfl | rfl | rfl | rfl
   · rfl
   · rfl
   · rfl
   · rw [hxe]; rfl
 refine (InsE.Insert_any w1.heap.size m i vb (.slice ca m cd) (entCs l) [.int .u8 4, .int .i64 0, .int .i64 0, .slice none 0 0] w4 hrow hW4 (by omega) him hone (by intro u hu; simp at hu; rcases hu with rfl | rfl | rfl | rfl <;> rfl) hv4 rfl HNE.out).mono ?_
 rintro e w5 ⟨dv, rfl, ho5, hm5⟩
 have hbad := OwnScr.put_odd HG4.out (by rw [HLM.out]; exact ho5) hm5 (by rw [HLM.out]; exact him)
 rw [HLE.out] at hbad
 obtain ⟨da, dc, rfl⟩ := hbad.form
 have hel : es.length = m := HX1.out.1
 have hbl := badS_len (es := es) (i := i) (by omega)
 rw [hbl, hel] at hbad ⊢
 have HD5 : Hid (ScrAt w5 da (m + 1) (badS es i)) := hbad.at_
 have HBC := Lib.hid (badS_chk (i := i) HCX.out (by omega) (by omega))
 have hba5 : Below w1.heap.size w1 w5 := HA4.out.trans (hm5.below hW4 (fun q hq e => by have := ownBlock_ge_ hrow e.symm; omega))
 have HX5 := Lib.hid (HX1.out.below hba5)
 have HB5 : Hid (Below W.heap.size W w5) := HB1.out.trans (hba5.mono HB1.out.size)
 clear hbad hbl hel ho5 hm5 hv4 hW4 hrow HNE HG4 HLE HLM HA4 HX1 HB1 hone hba5
 generalize hbs : badS es i = bs at *
 have HBS := Lib.hid hbs
 clear hbs
 go_wp2_with fail
 refine (Check_any da (m + 1) dc bs w5 HD5.out hmx1).mono ?_; rintro e w6 ⟨rfl, hb6⟩
 have HX6 := Lib.hid (HX5.out.below hb6)
 have HD6 := Lib.hid (HD5.out.below hb6)
 have HB6 : Hid (Below W.heap.size W w6) := HB5.out.trans (hb6.mono HB5.out.size)
 clear hb6 HB5 HX5 HD5
 rw [HBC.out.1, HBC.out.2]
 go_wp2_with fail
 refine (Frames_no (-1) da (m + 1) dc bs w6 HD6.out hmx1 410 (wrg1_bad HBC.out.2) (by decide)).mono ?_; rintro e w7 ⟨rfl, hb7⟩
 have HX7 := Lib.hid (HX6.out.below hb7)
 have HD7 := Lib.hid (HD6.out.below hb7)
 have HB7 : Hid (Below W.heap.size W w7) := HB6.out.trans (hb7.mono HB6.out.size)
 clear hb7 HB6 HX6 HD6
 go_wp2_with fail
 refine (Moves_no 0 0 da (m + 1) dc bs w7 HD7.out hmx1 410 (wrg1_bad HBC.out.2) (by decide)).mono ?_; rintro e w8 ⟨rfl, hb8⟩
 have HX8 := Lib.hid (HX7.out.below hb8)
 have HD8 := Lib.hid (HD7.out.below hb8)
 have HB8 : Hid (Below W.heap.size W w8) := HB7.out.trans (hb8.mono HB7.out.size)
 clear hb8 HB7 HX7 HD7
 go_wp2_with fail
 refine (Mix_no b da none m (m + 1) 0 d dc 0 es bs w8 HX8.out HD8.out hmx hmx1 410 (wrg2_bad HCX.out HBC.out.2) (by decide)).mono ?_; rintro e w9 ⟨rfl, hb9⟩
 have HX9 := Lib.hid (HX8.out.below hb9)
 have HD9 := Lib.hid (HD8.out.below hb9)
 have HB9 : Hid (Below W.heap.size W w9) := HB8.out.trans (hb9.mono HB8.out.size)
 clear hb9 HB8 HX8 HD8
 go_wp2_with fail
 refine (Lacks_e da (m + 1) dc 0 0 410 w9 (by decide) (Moves_no 0 0 da (m + 1) dc bs w9 HD9.out hmx1 410 (wrg1_bad HBC.out.2) (by decide))).mono ?_; rintro e w10 ⟨rfl, hb10⟩
 have HX10 := Lib.hid (HX9.out.below hb10)
 have HB10 : Hid (Below W.heap.size W w10) := HB9.out.trans (hb10.mono HB9.out.size)
 clear hb10 HB9 HX9
 obtain ⟨A, hA⟩ : ∃ A : Int, min n (-1) = A := ⟨_, rfl⟩
 obtain ⟨B, hB⟩ : ∃ B : Int, max n 4294967296 = B := ⟨_, rfl⟩
 have hA1 : A < 0 := by omega
 have hB1 : 4294967295 < B := by omega
 go_wp2_with fail
 clear hA hB
 have hm11 : Mod (fun _ => False) w10 (w10.alloc (.cells #[.int .i64 A, .int .i64 B] 3)) := (Mod.refl _ _).alloc _
 have hl11 := World.alloc_heap_new w10 (.cells #[.int .i64 A, .int .i64 B] 3)
 have HX11 : Hid (ScrAt (w10.alloc (.cells #[.int .i64 A, .int .i64 B] 3)) b m es) := HX10.out.mod hm11 (by simp)
 have HB11 : Hid (Below W.heap.size W (w10.alloc (.cells #[.int .i64 A, .int .i64 B] 3))) := HB10.out.trans (hm11.below HB10.out.size (by simp))
 have HL11 := Lib.hid hl11
 clear hm11 hl11 HX10 HB10
 generalize w10.alloc (.cells #[.int .i64 A, .int .i64 B] 3) = w11 at *
 generalize w10.heap.size = L at *
 go_loopw [123] (fun ix wr => ∃ k : Nat, k ≤ 2 ∧ ix = .int .i64 k ∧ Hid (Below w11.heap.size w11 wr)) (fun ix _ => 2 - (intOf ix).toNat)
 case atStart => exact ⟨0, Nat.zero_le _, rfl, Below.refl _ _⟩
 case round =>
   obtain ⟨k, hk, rfl, HBr⟩ := hrel
   by_cases hlt : k < 2
   · have hltI : (k : Int) < 2 := by omega
     have hl2 := (Mod.of_same (S := fun _ => False) HBr.out).heap HL11.out (by simp)
     obtain ⟨z, hz, hc⟩ : ∃ z : Int, (z < 0 ∨ 4294967295 < z) ∧ wr.cell? ⟨L, k, none⟩ = some (.int .i64 z) := by
       have hk2 : k = 0 ∨ k = 1 := by omega
       rcases hk2 with rfl | rfl
       · exact ⟨A, .inl hA1, by simp [World.cell?, hl2]⟩
       · exact ⟨B, .inr hB1, by simp [World.cell?, hl2]⟩
     have HZ1 : Hid (wrg1 z es = 2) := wrg1_out HCX.out hz
     have HZ2 : Hid (wrg2 z es es = 2) := wrg2_out HCX.out HCX.out hz
     have HX0 : Hid (ScrAt wr b m es) := HX11.out.below HBr.out
     obtain ⟨u, hu⟩ : ∃ u : Int, 1 + at_ % 8 = u := ⟨_, rfl⟩
     obtain ⟨C, hC⟩ : ∃ C : Int, max n 9 = C := ⟨_, rfl⟩
     obtain ⟨D, hD⟩ : ∃ D : Int, min n 0 = D := ⟨_, rfl⟩
     have hu1 : 1 ≤ u := by omega
     have hu8 : u ≤ 8 := by omega
     have hC9 : 9 ≤ C := by omega
     have hD0 : D ≤ 0 := by omega
     have HU : Hid (wrg1 u es = 0) := HCX.out.wrg1 (by omega) (by omega)
     have HW0 : Hid (wrg1 0 es = 0) := HCX.out.wrg1 (by omega) (by omega)
     have HBq0 : Hid (Below w11.heap.size w11 wr) := HBr.out
     clear hl2 hz hA1 hB1
     go_wp2_with fail
     refine (Frames_no z b m d es wr HX0.out hmx 2 HZ1.out (by decide)).mono ?_; rintro e v1 ⟨rfl, hb1⟩
     have HX1 := Lib.hid (HX0.out.below hb1)
     have HBq1 : Hid (Below w11.heap.size w11 v1) := below_step_ HBq0.out hb1
     clear hb1 HX0 HBq0
     go_wp2_with fail
     refine (Alone_no z b m d es v1 HX1.out hmx 2 HZ1.out (by decide)).mono ?_; rintro e v2 ⟨rfl, hb2⟩
     have HX2 := Lib.hid (HX1.out.below hb2)
     have HBq2 : Hid (Below w11.heap.size w11 v2) := below_step_ HBq1.out hb2
     clear hb2 HX1 HBq1
     go_wp2_with fail
     refine (Others_no z b m d es v2 HX2.out hmx 2 HZ1.out (by decide)).mono ?_; rintro e v3 ⟨rfl, hb3⟩
     have HX3 := Lib.hid (HX2.out.below hb3)
     have HBq3 : Hid (Below w11.heap.size w11 v3) := below_step_ HBq2.out hb3
     clear hb3 HX2 HBq2
     go_wp2_with fail
     refine (Agree_no z b b m m d d es es v3 HX3.out HX3.out hmx hmx 2 HZ2.out (by decide)).mono ?_; rintro e v4 ⟨rfl, hb4⟩
     have HX4 := Lib.hid (HX3.out.below hb4)
     have HBq4 : Hid (Below w11.heap.size w11 v4) := below_step_ HBq3.out hb4
     clear hb4 HX3 HBq3
     go_wp2_with fail
     refine (Alike_no 8 z b b m m d d es es v4 HX4.out HX4.out hmx hmx 2 HZ2.out (by decide)).mono ?_; rintro e v5 ⟨rfl, hb5⟩
     have HX5 := Lib.hid (HX4.out.below hb5)
     have HBq5 : Hid (Below w11.heap.size w11 v5) := below_step_ HBq4.out hb5
     clear hb5 HX4 HBq4
     go_wp2_with fail
     refine (Moves_arg u u b m d es v5 HX5.out hmx HU.out (by omega)).mono ?_; rintro e v6 ⟨rfl, hb6⟩
     have HX6 := Lib.hid (HX5.out.below hb6)
     have HBq6 : Hid (Below w11.heap.size w11 v6) := below_step_ HBq5.out hb6
     clear hb6 HX5 HBq5
     clear hu
     go_wp2_with fail
     refine (Lacks_e b m d C 0 2 v6 (by decide) (Moves_arg C 0 b m d es v6 HX6.out hmx HW0.out (by omega))).mono ?_; rintro e v7 ⟨rfl, hb7⟩
     have HX7 := Lib.hid (HX6.out.below hb7)
     have HBq7 : Hid (Below w11.heap.size w11 v7) := below_step_ HBq6.out hb7
     clear hb7 HX6 HBq6
     clear hC
     go_wp2_with fail
     refine (Moves_arg D 0 b m d es v7 HX7.out hmx HW0.out (by omega)).mono ?_; rintro e v8 ⟨rfl, hb8⟩
     have HX8 := Lib.hid (HX7.out.below hb8)
     have HBq8 : Hid (Below w11.heap.size w11 v8) := below_step_ HBq7.out hb8
     clear hb8 HX7 HBq7
     clear hD
     go_wp2_with fail
     exact ⟨⟨k + 1, by omega, by simp, HBq8.out⟩, by simp [intOf]; omega⟩
   · obtain rfl : k = 2 := by omega
     have HX0 : Hid (ScrAt wr b m es) := HX11.out.below HBr.out
     have HBq0 : Hid (Below W.heap.size W wr) := HB11.out.trans (HBr.out.mono HB11.out.size)
     have HT1 : Hid (wrg2 0 es [⟨2, 0, 0, ByteArray.empty⟩] = 0) := HCX.out.wrg2 tick_clean.1 (by omega) (by omega)
     have HT2 : Hid (wrg2 0 es [⟨2, 0, 0, ByteArray.empty⟩, ⟨2, 0, 0, ByteArray.empty⟩] = 0) := HCX.out.wrg2 tick_clean.2 (by omega) (by omega)
     clear HX11 HB11 HL11 HBr hA1 hB1
     go_wp2_with fail
     refine (tick_any wr).mono ?_; rintro e u1 ⟨rfl, hb1⟩
     have HX1 := Lib.hid (HX0.out.below hb1)
     have HBq1 : Hid (Below W.heap.size W u1) := HBq0.out.trans (hb1.mono HBq0.out.size)
     clear hb1 HX0 HBq0
     go_wp2_with fail
     refine (tick_any u1).mono ?_; rintro e u2 ⟨rfl, hb2⟩
     have HX2 := Lib.hid (HX1.out.below hb2)
     have HBq2 : Hid (Below W.heap.size W u2) := HBq1.out.trans (hb2.mono HBq1.out.size)
     clear hb2 HX1 HBq1
     go_wp2_with fail
     have hml : Mod (fun _ => False) u2 (u2.alloc (.cells #[.int .u8 2, .int .i64 0, .int .i64 0, .slice none 0 0, .int .u8 2, .int .i64 0, .int .i64 0, .slice none 0 0] 38)) := (Mod.refl _ _).alloc _
     have hlt1 := World.alloc_heap_new u2 (.cells #[.int .u8 2, .int .i64 0, .int .i64 0, .slice none 0 0, .int .u8 2, .int .i64 0, .int .i64 0, .slice none 0 0] 38)
     have hlsz : (u2.alloc (.cells #[.int .u8 2, .int .i64 0, .int .i64 0, .slice none 0 0, .int .u8 2, .int .i64 0, .int .i64 0, .slice none 0 0] 38)).heap.size = u2.heap.size + 1 := by show (u2.heap.push _).size = _; rw [Array.size_push]
     have hml2 : Mod (fun _ => False) u2 ((u2.alloc (.cells #[.int .u8 2, .int .i64 0, .int .i64 0, .slice none 0 0, .int .u8 2, .int .i64 0, .int .i64 0, .slice none 0 0] 38)).alloc (.cells #[.int .i64 (1), .int .i64 (0)] 3)) := hml.alloc _
     have hin : ((u2.alloc (.cells #[.int .u8 2, .int .i64 0, .int .i64 0, .slice none 0 0, .int .u8 2, .int .i64 0, .int .i64 0, .slice none 0 0] 38)).alloc (.cells #[.int .i64 (1), .int .i64 (0)] 3)).heap[u2.heap.size + 1]? = some (.cells #[.int .i64 (1), .int .i64 (0)] 3) := by have := World.alloc_heap_new (u2.alloc (.cells #[.int .u8 2, .int .i64 0, .int .i64 0, .slice none 0 0, .int .u8 2, .int .i64 0, .int .i64 0, .slice none 0 0] 38)) (.cells #[.int .i64 (1), .int .i64 (0)] 3); rw [hlsz] at this; exact this
     have hlt2 := ((Mod.refl (fun _ => False) (u2.alloc (.cells #[.int .u8 2, .int .i64 0, .int .i64 0, .slice none 0 0, .int .u8 2, .int .i64 0, .int .i64 0, .slice none 0 0] 38))).alloc (.cells #[.int .i64 (1), .int .i64 (0)] 3)).heap hlt1 (fun h => h)
     have HX3 : Hid (ScrAt ((u2.alloc (.cells #[.int .u8 2, .int .i64 0, .int .i64 0, .slice none 0 0, .int .u8 2, .int .i64 0, .int .i64 0, .slice none 0 0] 38)).alloc (.cells #[.int .i64 (1), .int .i64 (0)] 3)) b m es) := HX2.out.mod hml2 (by simp)
     have HBq3 : Hid (Below W.heap.size W ((u2.alloc (.cells #[.int .u8 2, .int .i64 0, .int .i64 0, .slice none 0 0, .int .u8 2, .int .i64 0, .int .i64 0, .slice none 0 0] 38)).alloc (.cells #[.int .i64 (1), .int .i64 (0)] 3))) := HBq2.out.trans (hml2.below HBq2.out.size (by simp))
     have HS3 : Hid (ScrAt ((u2.alloc (.cells #[.int .u8 2, .int .i64 0, .int .i64 0, .slice none 0 0, .int .u8 2, .int .i64 0, .int .i64 0, .slice none 0 0] 38)).alloc (.cells #[.int .i64 (1), .int .i64 (0)] 3)) (some ⟨u2.heap.size, 0, none⟩) 2 [⟨2, 0, 0, ByteArray.empty⟩, ⟨2, 0, 0, ByteArray.empty⟩]) := scr_lit_ [(⟨2, 0, 0, ByteArray.empty⟩, .slice none 0 0), (⟨2, 0, 0, ByteArray.empty⟩, .slice none 0 0)] hlt2 rfl (by intro x hx; simp at hx; try (rcases hx with rfl | rfl); all_goals first | exact StrAt.nil _ | (subst hx; exact StrAt.nil _))
     have HR3 : Hid (Reads .i64 ((u2.alloc (.cells #[.int .u8 2, .int .i64 0, .int .i64 0, .slice none 0 0, .int .u8 2, .int .i64 0, .int .i64 0, .slice none 0 0] 38)).alloc (.cells #[.int .i64 (1), .int .i64 (0)] 3)) (.slice (some ⟨u2.heap.size + 1, 0, none⟩) 2 2) [1, 0]) := reads_lit2_ hin
     clear hml hlt1 hlsz HX2 HBq2 hml2 hin hlt2
     generalize (u2.alloc (.cells #[.int .u8 2, .int .i64 0, .int .i64 0, .slice none 0 0, .int .u8 2, .int .i64 0, .int .i64 0, .slice none 0 0] 38)).alloc (.cells #[.int .i64 (1), .int .i64 (0)] 3) = f3 at *
     generalize u2.heap.size + 1 = gi3 at *
     generalize u2.heap.size = gs3 at *
     refine (Mix_arg b (some ⟨gs3, 0, none⟩) (some ⟨gi3, 0, none⟩) m 2 2 d 2 2 es [⟨2, 0, 0, ByteArray.empty⟩, ⟨2, 0, 0, ByteArray.empty⟩] [1, 0] f3 HX3.out HS3.out hmx (by unfold maxLen; omega) HR3.out (by simp) HT2.out (by simp [atOk, sortedB])).mono ?_; rintro e u4 ⟨rfl, hb4⟩
     have HX4 := Lib.hid (HX3.out.below hb4)
     have HBq4 : Hid (Below W.heap.size W u4) := HBq3.out.trans (hb4.mono HBq3.out.size)
     clear hb4 HX3 HBq3 HS3 HR3
     go_wp2_with fail
     refine (tick_any u4).mono ?_; rintro e u5 ⟨rfl, hb5⟩
     have HX5 := Lib.hid (HX4.out.below hb5)
     have HBq5 : Hid (Below W.heap.size W u5) := HBq4.out.trans (hb5.mono HBq4.out.size)
     clear hb5 HX4 HBq4
     go_wp2_with fail
     have hml : Mod (fun _ => False) u5 (u5.alloc (.cells #[.int .u8 2, .int .i64 0, .int .i64 0, .slice none 0 0] 38)) := (Mod.refl _ _).alloc _
     have hlt1 := World.alloc_heap_new u5 (.cells #[.int .u8 2, .int .i64 0, .int .i64 0, .slice none 0 0] 38)
     have hlsz : (u5.alloc (.cells #[.int .u8 2, .int .i64 0, .int .i64 0, .slice none 0 0] 38)).heap.size = u5.heap.size + 1 := by show (u5.heap.push _).size = _; rw [Array.size_push]
     have hml2 : Mod (fun _ => False) u5 ((u5.alloc (.cells #[.int .u8 2, .int .i64 0, .int .i64 0, .slice none 0 0] 38)).alloc (.cells #[.int .i64 ((m : Int) + 1)] 3)) := hml.alloc _
     have hin : ((u5.alloc (.cells #[.int .u8 2, .int .i64 0, .int .i64 0, .slice none 0 0] 38)).alloc (.cells #[.int .i64 ((m : Int) + 1)] 3)).heap[u5.heap.size + 1]? = some (.cells #[.int .i64 ((m : Int) + 1)] 3) := by have := World.alloc_heap_new (u5.alloc (.cells #[.int .u8 2, .int .i64 0, .int .i64 0, .slice none 0 0] 38)) (.cells #[.int .i64 ((m : Int) + 1)] 3); rw [hlsz] at this; exact this
     have hlt2 := ((Mod.refl (fun _ => False) (u5.alloc (.cells #[.int .u8 2, .int .i64 0, .int .i64 0, .slice none 0 0] 38))).alloc (.cells #[.int .i64 ((m : Int) + 1)] 3)).heap hlt1 (fun h => h)
     have HX6 : Hid (ScrAt ((u5.alloc (.cells #[.int .u8 2, .int .i64 0, .int .i64 0, .slice none 0 0] 38)).alloc (.cells #[.int .i64 ((m : Int) + 1)] 3)) b m es) := HX5.out.mod hml2 (by simp)
     have HBq6 : Hid (Below W.heap.size W ((u5.alloc (.cells #[.int .u8 2, .int .i64 0, .int .i64 0, .slice none 0 0] 38)).alloc (.cells #[.int .i64 ((m : Int) + 1)] 3))) := HBq5.out.trans (hml2.below HBq5.out.size (by simp))
     have HS6 : Hid (ScrAt ((u5.alloc (.cells #[.int .u8 2, .int .i64 0, .int .i64 0, .slice none 0 0] 38)).alloc (.cells #[.int .i64 ((m : Int) + 1)] 3)) (some ⟨u5.heap.size, 0, none⟩) 1 [⟨2, 0, 0, ByteArray.empty⟩]) := scr_lit_ [(⟨2, 0, 0, ByteArray.empty⟩, .slice none 0 0)] hlt2 rfl (by intro x hx; simp at hx; try (rcases hx with rfl | rfl); all_goals first | exact StrAt.nil _ | (subst hx; exact StrAt.nil _))
     have HR6 : Hid (Reads .i64 ((u5.alloc (.cells #[.int .u8 2, .int .i64 0, .int .i64 0, .slice none 0 0] 38)).alloc (.cells #[.int .i64 ((m : Int) + 1)] 3)) (.slice (some ⟨u5.heap.size + 1, 0, none⟩) 1 1) [(m : Int) + 1]) := reads_lit1_ hin
     clear hml hlt1 hlsz HX5 HBq5 hml2 hin hlt2
     generalize (u5.alloc (.cells #[.int .u8 2, .int .i64 0, .int .i64 0, .slice none 0 0] 38)).alloc (.cells #[.int .i64 ((m : Int) + 1)] 3) = f6 at *
     generalize u5.heap.size + 1 = gi6 at *
     generalize u5.heap.size = gs6 at *
     refine (Mix_arg b (some ⟨gs6, 0, none⟩) (some ⟨gi6, 0, none⟩) m 1 1 d 1 1 es [⟨2, 0, 0, ByteArray.empty⟩] [(m : Int) + 1] f6 HX6.out HS6.out hmx (by unfold maxLen; omega) HR6.out (by simp) HT1.out (by simp [atOk]; omega)).mono ?_; rintro e u7 ⟨rfl, hb7⟩
     have HX7 := Lib.hid (HX6.out.below hb7)
     have HBq7 : Hid (Below W.heap.size W u7) := HBq6.out.trans (hb7.mono HBq6.out.size)
     clear hb7 HX6 HBq6 HS6 HR6
     go_wp2_with fail
     refine (tick_any u7).mono ?_; rintro e u8 ⟨rfl, hb8⟩
     have HX8 := Lib.hid (HX7.out.below hb8)
     have HBq8 : Hid (Below W.heap.size W u8) := HBq7.out.trans (hb8.mono HBq7.out.size)
     clear hb8 HX7 HBq7
     go_wp2_with fail
     have hml : Mod (fun _ => False) u8 (u8.alloc (.cells #[.int .u8 2, .int .i64 0, .int .i64 0, .slice none 0 0] 38)) := (Mod.refl _ _).alloc _
     have hlt1 := World.alloc_heap_new u8 (.cells #[.int .u8 2, .int .i64 0, .int .i64 0, .slice none 0 0] 38)
     have hlsz : (u8.alloc (.cells #[.int .u8 2, .int .i64 0, .int .i64 0, .slice none 0 0] 38)).heap.size = u8.heap.size + 1 := by show (u8.heap.push _).size = _; rw [Array.size_push]
     have HX9 : Hid (ScrAt (u8.alloc (.cells #[.int .u8 2, .int .i64 0, .int .i64 0, .slice none 0 0] 38)) b m es) := HX8.out.mod hml (by simp)
     have HBq9 : Hid (Below W.heap.size W (u8.alloc (.cells #[.int .u8 2, .int .i64 0, .int .i64 0, .slice none 0 0] 38))) := HBq8.out.trans (hml.below HBq8.out.size (by simp))
     have HS9 : Hid (ScrAt (u8.alloc (.cells #[.int .u8 2, .int .i64 0, .int .i64 0, .slice none 0 0] 38)) (some ⟨u8.heap.size, 0, none⟩) 1 [⟨2, 0, 0, ByteArray.empty⟩]) := scr_lit_ [(⟨2, 0, 0, ByteArray.empty⟩, .slice none 0 0)] hlt1 rfl (by intro x hx; simp at hx; try (rcases hx with rfl | rfl); all_goals first | exact StrAt.nil _ | (subst hx; exact StrAt.nil _))
     clear hml hlt1 hlsz HX8 HBq8
     generalize u8.alloc (.cells #[.int .u8 2, .int .i64 0, .int .i64 0, .slice none 0 0] 38) = f9 at *
     generalize u8.heap.size = gs9 at *
     refine (Mix_arg b (some ⟨gs9, 0, none⟩) none m 1 0 d 1 0 es [⟨2, 0, 0, ByteArray.empty⟩] [] f9 HX9.out HS9.out hmx (by unfold maxLen; omega) (.inl ⟨none, 0, rfl, rfl⟩) (by simp) HT1.out (by simp [atOk])).mono ?_; rintro e u10 ⟨rfl, hb10⟩
     have HX10 := Lib.hid (HX9.out.below hb10)
     have HBq10 : Hid (Below W.heap.size W u10) := HBq9.out.trans (hb10.mono HBq9.out.size)
     clear hb10 HX9 HBq9 HS9
     go_wp2_with fail
     refine (tick_any u10).mono ?_; rintro e u11 ⟨rfl, hb11⟩
     have HX11 := Lib.hid (HX10.out.below hb11)
     have HBq11 : Hid (Below W.heap.size W u11) := HBq10.out.trans (hb11.mono HBq10.out.size)
     clear hb11 HX10 HBq10
     go_wp2_with fail
     have hml : Mod (fun _ => False) u11 (u11.alloc (.cells #[.int .u8 2, .int .i64 0, .int .i64 0, .slice none 0 0] 38)) := (Mod.refl _ _).alloc _
     have hlt1 := World.alloc_heap_new u11 (.cells #[.int .u8 2, .int .i64 0, .int .i64 0, .slice none 0 0] 38)
     have hlsz : (u11.alloc (.cells #[.int .u8 2, .int .i64 0, .int .i64 0, .slice none 0 0] 38)).heap.size = u11.heap.size + 1 := by show (u11.heap.push _).size = _; rw [Array.size_push]
     have hml2 : Mod (fun _ => False) u11 ((u11.alloc (.cells #[.int .u8 2, .int .i64 0, .int .i64 0, .slice none 0 0] 38)).alloc (.cells #[.int .i64 (-1)] 3)) := hml.alloc _
     have hin : ((u11.alloc (.cells #[.int .u8 2, .int .i64 0, .int .i64 0, .slice none 0 0] 38)).alloc (.cells #[.int .i64 (-1)] 3)).heap[u11.heap.size + 1]? = some (.cells #[.int .i64 (-1)] 3) := by have := World.alloc_heap_new (u11.alloc (.cells #[.int .u8 2, .int .i64 0, .int .i64 0, .slice none 0 0] 38)) (.cells #[.int .i64 (-1)] 3); rw [hlsz] at this; exact this
     have hlt2 := ((Mod.refl (fun _ => False) (u11.alloc (.cells #[.int .u8 2, .int .i64 0, .int .i64 0, .slice none 0 0] 38))).alloc (.cells #[.int .i64 (-1)] 3)).heap hlt1 (fun h => h)
     have HX12 : Hid (ScrAt ((u11.alloc (.cells #[.int .u8 2, .int .i64 0, .int .i64 0, .slice none 0 0] 38)).alloc (.cells #[.int .i64 (-1)] 3)) b m es) := HX11.out.mod hml2 (by simp)
     have HBq12 : Hid (Below W.heap.size W ((u11.alloc (.cells #[.int .u8 2, .int .i64 0, .int .i64 0, .slice none 0 0] 38)).alloc (.cells #[.int .i64 (-1)] 3))) := HBq11.out.trans (hml2.below HBq11.out.size (by simp))
     have HS12 : Hid (ScrAt ((u11.alloc (.cells #[.int .u8 2, .int .i64 0, .int .i64 0, .slice none 0 0] 38)).alloc (.cells #[.int .i64 (-1)] 3)) (some ⟨u11.heap.size, 0, none⟩) 1 [⟨2, 0, 0, ByteArray.empty⟩]) := scr_lit_ [(⟨2, 0, 0, ByteArray.empty⟩, .slice none 0 0)] hlt2 rfl (by intro x hx; simp at hx; try (rcases hx with rfl | rfl); all_goals first | exact StrAt.nil _ | (subst hx; exact StrAt.nil _))
     have HR12 : Hid (Reads .i64 ((u11.alloc (.cells #[.int .u8 2, .int .i64 0, .int .i64 0, .slice none 0 0] 38)).alloc (.cells #[.int .i64 (-1)] 3)) (.slice (some ⟨u11.heap.size + 1, 0, none⟩) 1 1) [-1]) := reads_lit1_ hin
     clear hml hlt1 hlsz HX11 HBq11 hml2 hin hlt2
     generalize (u11.alloc (.cells #[.int .u8 2, .int .i64 0, .int .i64 0, .slice none 0 0] 38)).alloc (.cells #[.int .i64 (-1)] 3) = f12 at *
     generalize u11.heap.size + 1 = gi12 at *
     generalize u11.heap.size = gs12 at *
     refine (Mix_arg b (some ⟨gs12, 0, none⟩) (some ⟨gi12, 0, none⟩) m 1 1 d 1 1 es [⟨2, 0, 0, ByteArray.empty⟩] [-1] f12 HX12.out HS12.out hmx (by unfold maxLen; omega) HR12.out (by simp) HT1.out (by simp [atOk])).mono ?_; rintro e u13 ⟨rfl, hb13⟩
     have HX13 := Lib.hid (HX12.out.below hb13)
     have HBq13 : Hid (Below W.heap.size W u13) := HBq12.out.trans (hb13.mono HBq12.out.size)
     clear hb13 HX12 HBq12 HS12 HR12
     go_wp2_with fail
     refine (awake42 _).mono ?_; rintro e x9 ⟨rfl, hb9⟩
     have HB9 : Hid (Below W.heap.size W x9) := HBq13.out.trans (hb9.mono HBq13.out.size)
     clear hb9
     go_wp2_with fail
     go_ret
     exact ⟨by first | rfl | simp, HB9.out⟩
end View
end Go.Proofs.YtdfmgneicdpjmaaGreat
