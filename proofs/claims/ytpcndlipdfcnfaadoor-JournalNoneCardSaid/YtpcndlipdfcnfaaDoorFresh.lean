/- A journal on a blank disk: fresh. -/
import Derived.Test.YtpcndlipdfcnfaaDoorLog
namespace Go.Proofs.YtpcndlipdfcnfaaDoor
open Go Go.RowKit
section
variable {M : List Nat} {w : World} {d a m c lg : Nat} {D : DiskS} {life epoch fin : Int} {recs : Value} {settled : Bool}
set_option maxRecDepth 100000 in
set_option maxHeartbeats 2000000 in
theorem fresh_blank (h : DiskAt M w d a m D) (hb : D.Blank) (N : Nat) (hN : D.n = 2 + 2 * N) (hl : LogAt w lg d c life 2 N (2 + N) N 0 0 fin recs settled) :
    Calls Tryd.prog 36 #[ptr lg] w fun e w' => e = .returned (.tuple #[.int .i64 1, .int .i64 0]) ∧ Upd [] w w' := by
  have hn := h.ok.n2
  have HH := Sd.mk h
  have HB := Sd.mk hb
  have HL := Sd.mk hl
  have hc5 : w.cell? ⟨lg, 8, none⟩ = some (.int .i64 0) := cell_of hl rfl
  have hc3 : w.cell? ⟨lg, 3, none⟩ = some (.int .i64 2) := cell_of hl rfl
  have hc4 : w.cell? ⟨lg, 4, none⟩ = some (.int .i64 N) := cell_of hl rfl
  have hc5' : w.cell? ⟨lg, 5, none⟩ = some (.int .i64 (2 + N)) := cell_of hl rfl
  have hc6 : w.cell? ⟨lg, 6, none⟩ = some (.int .i64 N) := cell_of hl rfl
  have hlg := lt_of_block hl
  have hr0 := runs_0
  have hr1 := runs_1
  clear h hb hl
  go_enter Tryd.func36, Tryd.ntmps36
  go_wp2
  go_loopg [4, 18] 2 (fun g t k wr => ∃ i : Nat, i ≤ 2 ∧ t = .int .i64 0 ∧ k = .int .i64 i ∧ Sd (g = 2 - i) ∧ Sd (Upd [] w wr))
  case atStart => exact ⟨0, by omega, rfl, rfl, ⟨rfl⟩, ⟨Upd.refl _ _⟩⟩
  case round =>
    obtain ⟨i, hi, rfl, rfl, hg, hu⟩ := hrel
    clear hc5 hc3 hc4 hc5' hc6
    rename World => wo
    by_cases hlt : i < 2
    · obtain ⟨At, hAt, hA0, hA1, hidx⟩ : ∃ At : Int, (At = 2 ∨ At = 2 + N) ∧ 2 ≤ At ∧ At + N ≤ D.n ∧ ∀ w', (Instr.index 36 (.agg #[.int .i64 2, .int .i64 N, .int .i64 (2 + N), .int .i64 N]) (.int .i64 i)).run Tryd.prog w' = .ok (.agg #[.int .i64 At, .int .i64 N]) w' := by
        obtain rfl | rfl : i = 0 ∨ i = 1 := by omega
        · exact ⟨2, .inl rfl, by omega, by omega, fun w' => hr0 _ _ _ _ w'⟩
        · exact ⟨2 + N, .inr rfl, by omega, by omega, fun w' => hr1 _ _ _ _ w'⟩
      clear hr0 hr1
      have hi2 : (i : Int) < 2 := by omega
      go_wp2
      go_loopg [4, 23] N (fun g t k w' => ∃ j : Nat, j ≤ N ∧ t = .int .i64 0 ∧ k = .int .i64 j ∧ Sd (g = N - j) ∧ Sd (Upd [] (wo.alloc (.cells #[.int .i64 At, .int .i64 N] 23)) w'))
      case atStart => exact ⟨0, by omega, rfl, rfl, ⟨rfl⟩, ⟨Upd.refl _ _⟩⟩
      case round =>
        obtain ⟨j, hj, rfl, rfl, hg2, hu2⟩ := hrel
        by_cases hlt2 : j < N
        · have hu3 := (hu.out.alloc (.cells #[.int .i64 At, .int .i64 N] 23)).trans hu2.out
          have hblk := hu2.out.heap (heap_alloc_new wo _) (by simp)
          have hx0 : wr.cell? ⟨lg, 0, none⟩ = some (ptr d) := cell_of (HL.out.upd hu3 (by simp)) rfl
          have ht0 : wr.cell? ⟨wo.heap.size, 0, none⟩ = some (.int .i64 At) := cell_of hblk rfl
          have hwr : IntKind.i64.wrap (At + (j : Int)) = At + j := by rw [IntKind.wrap_i64]; omega
          have HR := Sd.mk (readZ (HH.out.keep hu3.drew) HB.out (At + j) (by omega) (by omega))
          have H3 := Sd.mk hu3
          have hj1 : (j : Int) < N := by omega
          clear hblk hu3
          go_wp2
          refine wp_region_x 14 (fun w' : World => w'.cell? ⟨lg, 0, none⟩ = some (ptr d) ∧ w'.cell? ⟨wo.heap.size, 0, none⟩ = some (.int .i64 At)) rfl ?_
          have hS0 : wr.drew.cell? ⟨lg, 0, none⟩ = some (ptr d) ∧ wr.drew.cell? ⟨wo.heap.size, 0, none⟩ = some (.int .i64 At) := ⟨hx0, ht0⟩
          refine wpX_take 0 (v := ?_) rfl (by kernel_rfl) (fun _ _ _ h => h) (Or.inl ⟨by rfl, ?_⟩) (by assumption) ?_
          rotate_left
          · intro wq hSq; (try dsimp only at hSq); go_simp; try (with_reducible rfl)
          try simp only [Act.put, List.setIfInBounds_toArray, List.set_cons_zero, List.set_cons_succ]
          refine wpX_take 1 (v := ?_) rfl (by kernel_rfl) (fun _ _ _ h => h) (Or.inl ⟨by rfl, ?_⟩) (by assumption) ?_
          rotate_left
          · intro wq hSq; (try dsimp only at hSq); go_simp; try (with_reducible rfl)
          try simp only [Act.put, List.setIfInBounds_toArray, List.set_cons_zero, List.set_cons_succ]
          refine wpX_take 2 (v := ?_) rfl (by kernel_rfl) (fun _ _ _ h => h) (Or.inl ⟨by rfl, ?_⟩) (by assumption) ?_
          rotate_left
          · intro wq hSq; (try dsimp only at hSq); go_simp; try (with_reducible rfl)
          try simp only [Act.put, List.setIfInBounds_toArray, List.set_cons_zero, List.set_cons_succ]
          refine wpX_take 3 (v := ?_) rfl (by kernel_rfl) (fun _ _ _ h => h) (Or.inl ⟨by rfl, ?_⟩) (by assumption) ?_
          rotate_left
          · intro wq hSq; (try dsimp only at hSq); go_simp; try (with_reducible rfl)
          try simp only [Act.put, List.setIfInBounds_toArray, List.set_cons_zero, List.set_cons_succ]
          refine wpX_take 4 (v := ?_) rfl (by kernel_rfl) (fun _ _ _ h => h) (Or.inl ⟨by rfl, ?_⟩) (by assumption) ?_
          rotate_left
          · intro wq hSq; (try dsimp only at hSq); go_simp; try (with_reducible rfl)
          try simp only [Act.put, List.setIfInBounds_toArray, List.set_cons_zero, List.set_cons_succ]
          refine wpX_take 5 (v := ?_) rfl (by kernel_rfl) (fun _ _ _ h => h) (Or.inl ⟨by rfl, ?_⟩) (by assumption) ?_
          rotate_left
          · intro wq hSq; (try dsimp only at hSq); go_simp; try (with_reducible rfl)
          try simp only [Act.put, List.setIfInBounds_toArray, List.set_cons_zero, List.set_cons_succ]
          refine wpX_take 6 (v := ?_) rfl (by kernel_rfl) (fun _ _ _ h => h) (Or.inl ⟨by rfl, ?_⟩) (by assumption) ?_
          rotate_left
          · intro wq hSq; (try dsimp only at hSq); go_simp; try (with_reducible rfl)
          try simp only [Act.put, List.setIfInBounds_toArray, List.set_cons_zero, List.set_cons_succ]
          refine wpX_take 7 (v := ?_) rfl (by kernel_rfl) (fun _ _ _ h => h) (Or.inl ⟨by rfl, ?_⟩) (by assumption) ?_
          rotate_left
          · intro wq hSq; (try dsimp only at hSq); go_simp; try (with_reducible rfl)
          try simp only [Act.put, List.setIfInBounds_toArray, List.set_cons_zero, List.set_cons_succ]
          refine wpX_one 8 (by kernel_rfl) rfl (fun K hK => ?_)
          go_simp
          refine HR.out.mono ?_
          rintro e w1 ⟨v, rfl, hB, hU⟩
          have hS1 : w1.cell? ⟨lg, 0, none⟩ = some (ptr d) ∧ w1.cell? ⟨wo.heap.size, 0, none⟩ = some (.int .i64 At) := ⟨hU.cell hx0 (by simp), hU.cell ht0 (by simp)⟩
          refine hK _ _ (fun _ => by assumption) ?_
          try simp only [Act.put, List.setIfInBounds_toArray, List.set_cons_zero, List.set_cons_succ]
          clear hK K
          refine wpX_take 9 (v := ?_) rfl (by kernel_rfl) (fun _ _ _ h => h) (Or.inl ⟨by rfl, ?_⟩) (by assumption) ?_
          rotate_left
          · intro wq hSq; (try dsimp only at hSq); go_simp; try (with_reducible rfl)
          try simp only [Act.put, List.setIfInBounds_toArray, List.set_cons_zero, List.set_cons_succ]
          refine wpX_take 10 (v := ?_) rfl (by kernel_rfl) (fun _ _ _ h => h) (Or.inl ⟨by rfl, ?_⟩) (by assumption) ?_
          rotate_left
          · intro wq hSq; (try dsimp only at hSq); go_simp; try (with_reducible rfl)
          try simp only [Act.put, List.setIfInBounds_toArray, List.set_cons_zero, List.set_cons_succ]
          refine wpX_take 11 (v := ?_) rfl (by kernel_rfl) (fun _ _ _ h => h) (Or.inl ⟨by rfl, ?_⟩) (by assumption) ?_
          rotate_left
          · intro wq hSq; (try dsimp only at hSq); go_simp; try (with_reducible rfl)
          try simp only [Act.put, List.setIfInBounds_toArray, List.set_cons_zero, List.set_cons_succ]
          refine wpX_take 12 (v := ?_) rfl (by kernel_rfl) (fun _ _ _ h => h) (Or.inl ⟨by rfl, ?_⟩) (by assumption) ?_
          rotate_left
          · intro wq hSq; (try dsimp only at hSq); go_simp; try (with_reducible rfl)
          try simp only [Act.put, List.setIfInBounds_toArray, List.set_cons_zero, List.set_cons_succ]
          refine wpX_take 13 (v := ?_) rfl (by kernel_rfl) (fun _ _ _ h => h) (Or.inl ⟨by rfl, ?_⟩) (by assumption) ?_
          rotate_left
          · intro wq hSq; (try dsimp only at hSq); go_simp; try (with_reducible rfl)
          try simp only [Act.put, List.setIfInBounds_toArray, List.set_cons_zero, List.set_cons_succ]
          refine wpX_done (by kernel_rfl) ?_ _
          obtain ⟨A, cp, rfl⟩ := hB.isSlice
          rw [List.length_replicate] at hB ⊢
          have HZ1 := Sd.mk (num_zeros hB 0 (by decide))
          have HZ2 := Sd.mk (num_zeros hB 122 (by decide))
          have HU := Sd.mk ((hu2.out.drew).trans hU)
          clear hB hU HR hS0 hS1 hx0 ht0
          go_wp2_with fail
          refine HZ1.out.mono ?_
          rintro e w' ⟨rfl, rfl⟩
          go_wp2_with fail
          refine HZ2.out.mono ?_
          rintro e w' ⟨rfl, rfl⟩
          go_wp2
          have hg3 := hg2.out
          go_roundg (N - (j + 1))
          case measure => omega
          case rel => exact ⟨j + 1, by omega, rfl, by go_num, ⟨rfl⟩, HU⟩
        · obtain rfl : j = N := by omega
          go_wp2
          have hg1 := hg.out
          go_roundg (2 - (i + 1))
          case measure => omega
          case rel => exact ⟨i + 1, by omega, rfl, by go_num, ⟨rfl⟩, ⟨(hu.out.alloc _).trans hu2.out⟩⟩
    · obtain rfl : i = 2 := by omega
      go_wp2
      go_ret2
      exact ⟨rfl, hu.out⟩
end
end Go.Proofs.YtpcndlipdfcnfaaDoor
