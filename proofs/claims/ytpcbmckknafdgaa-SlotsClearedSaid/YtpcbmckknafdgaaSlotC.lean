/- Slots: a new table. -/
import Derived.Test.YtpcbmckknafdgaaSlotB
namespace Go.Proofs.Ytpcbmckknafdgaa
open Go.RowKit Go.Shelf
set_option linter.unusedVariables false
set_option linter.unusedSimpArgs false
set_option maxRecDepth 100000
namespace Slot

theorem new_valid {n : Nat} {k : Int} (hn : n ≤ 1024) (hk : 1 ≤ k ∧ k ≤ 4294967296) : Valid n (newT n k) := by
  refine ⟨by simp [newT], by simp [newT], by simp [newT, List.nodup_range], fun i hi => ?_, fun i hi => ?_, hk, hn⟩
  · have hi' : i < n := by simpa [newT] using hi
    refine ⟨hi', by simp [newT, hi'], ?_⟩
    simp [newT, hi']; omega
  · simp [newT, hi]; omega

theorem New_yes (n : Nat) (k : Int) (w : World) (hn : n ≤ 1024) (hk : 1 ≤ k ∧ k ≤ 4294967296) :
    Calls Try.prog 16 #[.int .i64 n, .int .i64 k] w fun e w' => e = .returned (.tuple #[.pointer (some ⟨w.heap.size + 1, 0, none⟩), .int .i64 0]) ∧ TableAt w' (w.heap.size + 1) w.heap.size n (newT n k) ∧ Below w.heap.size w w' := by
  obtain ⟨hk1, hk2⟩ := hk
  obtain ⟨i0, hi, hz0, hz1, hz2⟩ := info_parts infoPlace
  have hmk : ∀ w : World, (Instr.makeSlice 72 (.int .i64 (n : Int)) (.int .i64 (n : Int))).run Try.prog w = .ok (.slice (some ⟨w.heap.size, 0, none⟩) n n) (w.alloc (.cells (zeroPlaces n) 77)) := by
    intro w
    have := run_make (P := Try.prog) w 72 77 i0 _ Try.underlying72 hi hz0 .i64 .i64 n n (by omega) (Int.le_refl _) (by rw [hz2]; omega) (by omega)
    rw [this, hz1]
    rfl
  have hV := Lib.hid (new_valid hn ⟨hk1, hk2⟩)
  have hnI : (n : Int) ≤ 1024 := by omega
  have hn0 : 0 ≤ (n : Int) := by omega
  have q0 : PlacesAt ((w.alloc (.cells (zeroPlaces n) 77)).alloc (.cells #[.slice (some ⟨w.heap.size, 0, none⟩) n n, .int .i64 k, .int .i64 (-1)] 74)) w.heap.size n (newT n k) (fun _ => 0) := by
    refine ⟨zeroPlaces n, ?_, by simp [zeroPlaces, size_madeCells], fun i hi => ?_⟩
    · rw [Below.heap_alloc _ _ _ (by simp)]; exact World.alloc_heap_new w _
    · obtain ⟨a, b, c⟩ := zeroPlaces_at n i hi
      exact ⟨by rw [a]; simp [newT, hi], by rw [b]; simp [newT, hi], c⟩
  have p0 : ((w.alloc (.cells (zeroPlaces n) 77)).alloc (.cells #[.slice (some ⟨w.heap.size, 0, none⟩) n n, .int .i64 k, .int .i64 (-1)] 74)).heap[w.heap.size + 1]? = some (.cells #[.slice (some ⟨w.heap.size, 0, none⟩) n n, .int .i64 k, .int .i64 (-1)] 74 (0, 0)) := by
    have := World.alloc_heap_new (w.alloc (.cells (zeroPlaces n) 77)) (.cells #[.slice (some ⟨w.heap.size, 0, none⟩) n n, .int .i64 k, .int .i64 (-1)] 74)
    rw [World.size_alloc] at this; exact this
  have hB0 : Below w.heap.size w ((w.alloc (.cells (zeroPlaces n) 77)).alloc (.cells #[.slice (some ⟨w.heap.size, 0, none⟩) n n, .int .i64 k, .int .i64 (-1)] 74)) := ((Below.refl _ _).alloc (Nat.le_refl _) _).alloc (by simp) _
  have Q0 := Lib.hid q0
  have P0 := Lib.hid p0
  clear q0 p0
  go_enter Try.func16, Try.ntmps16
  go_wp2_with fail
  go_loopw [7] (fun i wr => ∃ (j : Nat) (fst : Int) (nx : Nat → Int), j ≤ n ∧ i = .int .i64 ((j : Int) - 1) ∧ wr.heap[w.heap.size + 1]? = some (.cells #[.slice (some ⟨w.heap.size, 0, none⟩) n n, .int .i64 k, .int .i64 fst] 74 (0, 0)) ∧ PlacesAt wr w.heap.size n (newT n k) nx ∧ Hid (Chain nx fst (List.range' j (n - j))) ∧ Below w.heap.size w wr) (fun i _ => (intOf i + 1).toNat)
  case atStart => exact ⟨n, -1, _, Nat.le_refl _, rfl, P0.out, Q0.out, by simp [Hid, Chain], hB0⟩
  case round =>
    obtain ⟨j, fst, nx, hj, rfl, hp, hq, hch, hB⟩ := hrel
    clear hB0 Q0 P0
    by_cases hlt : 0 < j
    · obtain ⟨i, rfl⟩ : ∃ i, j = i + 1 := ⟨j - 1, by omega⟩
      have c0 : wr.cell? ⟨w.heap.size + 1, 0, none⟩ = some (.slice (some ⟨w.heap.size, 0, none⟩) n n) := by simp [World.cell?, hp]
      have c2 : wr.cell? ⟨w.heap.size + 1, 2, none⟩ = some (.int .i64 fst) := by simp [World.cell?, hp]
      have f2 : wr.frozen? ⟨w.heap.size + 1, 2, none⟩ = false := by simp [World.frozen?, hp]
      obtain ⟨cur, hcur, hsz, hcc⟩ := id hq
      have d2 : wr.cell? ⟨w.heap.size, i * 3 + 2, none⟩ = some (.int .i64 (nx i)) := by simp [World.cell?, hcur, (hcc i (by omega)).2.2]
      have g2 : wr.frozen? ⟨w.heap.size, i * 3 + 2, none⟩ = false := by simp [World.frozen?, hcur]
      have hin : i < n := by omega
      have hinI : (i : Int) < n := by omega
      clear hcur hsz hcc
      have Hp := Lib.hid hp
      have Hq := Lib.hid hq
      have HB := Lib.hid hB
      clear hp hq hB
      rw [show ((i + 1 : Nat) : Int) - 1 = (i : Int) by omega]
      go_wp2_with fail
      go_region
      go_wp2_with fail
      refine ⟨⟨i, i, (fun j => if j = i then fst else nx j), by omega, rfl, ?_, ?_, ?_, ?_⟩, by simp [intOf]⟩
      · exact head_set (v := .int .i64 (i : Int)) (heap_set_other Hp.out (a := ⟨w.heap.size, i * 3 + 2, none⟩) (by simp) (.int .i64 fst))
      · exact places_other (places_set Hq.out i hin fst) (a := ⟨w.heap.size + 1, 2, none⟩) (by simp) (.int .i64 (i : Int))
      · have hr : List.range' i (n - i) = i :: List.range' (i + 1) (n - (i + 1)) := by
          rw [show n - i = (n - (i + 1)) + 1 by omega, List.range'_succ]
        rw [Hid, hr]
        refine ⟨rfl, ?_⟩
        simp only [if_true]
        have hcg : ∀ x ∈ List.range' (i + 1) (n - (i + 1)), nx x = (fun j => if j = i then fst else nx j) x := by
          intro x hx
          have : x ≠ i := by have := (List.mem_range'_1.1 hx).1; omega
          simp only [if_neg this]
        exact Chain.congr hcg hch.out
      · exact ((HB.out.setCell (p := ⟨w.heap.size, i * 3 + 2, none⟩) (Nat.le_refl _) _).setCell (p := ⟨w.heap.size + 1, 2, none⟩) (by simp) _).drew
    · obtain rfl : j = 0 := by omega
      go_wp2_with fail
      go_ret2
      refine ⟨rfl, ⟨by omega, hV.out, fst, nx, hp, hq, ?_⟩, hB⟩
      have := hch.out
      simpa [newT, List.range_eq_range'] using this
end Slot
end Go.Proofs.Ytpcbmckknafdgaa
