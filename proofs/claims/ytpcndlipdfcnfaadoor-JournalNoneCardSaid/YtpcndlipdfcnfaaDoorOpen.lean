/- A journal on a blank disk: Open. -/
import Derived.Test.YtpcndlipdfcnfaaDoorPoint
namespace Go.Proofs.YtpcndlipdfcnfaaDoor
open Go Go.RowKit
section
variable {M : List Nat} {w : World} {d a m : Nat} {D : DiskS}
set_option maxRecDepth 100000 in
set_option maxHeartbeats 2000000 in
theorem open_blank (h : DiskAt M w d a m D) (hb : D.Blank) (ht : D.trip = 0) (N : Nat) (hN : (N = 9 ∧ D.n = 20) ∨ (N = 40 ∧ D.n = 82)) :
    Calls Tryd.prog 5 #[ptr d, .int .i64 0, .agg #[.int .i64 2, .int .i64 N], .agg #[.int .i64 (2 + N), .int .i64 N]] w fun e w' => ∃ lg c, e = .returned (.tuple #[ptr lg, .int .i64 0]) ∧ (∃ D', DiskAt (lg :: M) w' d a m D' ∧ D'.n = D.n ∧ D'.down = false ∧ D'.trip = 0 ∧ D'.life = D.life) ∧ LogAt w' lg d c D.life 2 N (2 + N) N 0 1 0 (.slice none 0 0) true ∧ w.heap.size ≤ lg ∧ Upd [d, a, m] w w' := by
  have hn : D.n = 2 + 2 * N := by omega
  have hlt := h.lt
  have HH := Sd.mk h
  have HB := Sd.mk hb
  have HT := Sd.mk ht
  have HO := Sd.mk (fun w' (u : Upd [] w w') => slotOpen_ok (h.keep u) hb.down (base := 0) (by omega) (by omega))
  have HF := Sd.mk (fun w' (u : Upd [] w w') => fits_ok (h.keep u) (n0 := N) (by omega))
  have HL := Sd.mk (fun w' (u : Upd [] w w') => life_is (h.keep u))
  clear h hb ht
  go_enter Tryd.func5, Tryd.ntmps5
  go_wp2_with fail
  refine (HO.out _ (((Upd.refl [] w).alloc _).alloc _)).mono ?_
  rintro e w1 ⟨rfl, hC, hU⟩
  rw [World.size_alloc, World.size_alloc] at hC ⊢
  have hb6 := hU.heap ((heap_alloc_lt _ (by simp)).trans (heap_alloc_new w _)) (by simp)
  have hb7 := hU.heap (heap_alloc2_new w _ _) (by simp)
  have q60 : w1.cell? ⟨w.heap.size, 0, none⟩ = some (.int .i64 2) := cell_of hb6 rfl
  have q61 : w1.cell? ⟨w.heap.size, 1, none⟩ = some (.int .i64 N) := cell_of hb6 rfl
  have q70 : w1.cell? ⟨w.heap.size + 1, 0, none⟩ = some (.int .i64 (2 + N)) := cell_of hb7 rfl
  have q71 : w1.cell? ⟨w.heap.size + 1, 1, none⟩ = some (.int .i64 N) := cell_of hb7 rfl
  have H1 := Sd.mk ((((Upd.refl [] w).alloc _).alloc _).trans hU)
  have HC := Sd.mk hC
  have hz1 : w.heap.size + 1 + 1 < w1.heap.size := lt_of_block hC
  clear hC hU hb6 hb7
  go_wp2_with fail
  refine (HF.out _ H1.out).mono ?_
  rintro e w2 ⟨rfl, hU⟩
  have p60 := hU.cell q60 (by simp)
  have p61 := hU.cell q61 (by simp)
  have p70 := hU.cell q70 (by simp)
  have p71 := hU.cell q71 (by simp)
  have HC2 : Sd (CellAt w2 (w.heap.size + 1 + 1) d 0 D.life) := ⟨HC.out.upd hU (by simp)⟩
  have H2 := Sd.mk (H1.out.trans hU)
  have hz2 : w.heap.size + 1 + 1 < w2.heap.size := lt_of_block HC2.out
  clear hU q60 q61 q70 q71 HC H1
  go_wp2
  refine wp_region_x 10 (fun w' : World => w'.cell? ⟨w.heap.size, 0, none⟩ = some (.int .i64 2) ∧ w'.cell? ⟨w.heap.size, 1, none⟩ = some (.int .i64 N) ∧ w'.cell? ⟨w.heap.size + 1, 0, none⟩ = some (.int .i64 (2 + N)) ∧ w'.cell? ⟨w.heap.size + 1, 1, none⟩ = some (.int .i64 N)) rfl ?_
  have hS0 : w2.drew.cell? ⟨w.heap.size, 0, none⟩ = some (.int .i64 2) ∧ w2.drew.cell? ⟨w.heap.size, 1, none⟩ = some (.int .i64 N) ∧ w2.drew.cell? ⟨w.heap.size + 1, 0, none⟩ = some (.int .i64 (2 + N)) ∧ w2.drew.cell? ⟨w.heap.size + 1, 1, none⟩ = some (.int .i64 N) := ⟨p60, p61, p70, p71⟩
  refine wpX_take 0 (v := ?_) rfl (by kernel_rfl) (fun _ _ _ h => h) (Or.inl ⟨by rfl, ?_⟩) (by assumption) ?_
  rotate_left
  · intro wq hSq; (try dsimp only at hSq); go_simp; try (with_reducible rfl)
  try simp only [Act.put, List.setIfInBounds_toArray, List.set_cons_zero, List.set_cons_succ]
  refine wpX_take 1 (v := ?_) rfl (by kernel_rfl) (fun _ _ _ h => h) (Or.inl ⟨by rfl, ?_⟩) (by assumption) ?_
  rotate_left
  · intro wq hSq; (try dsimp only at hSq); go_simp; try (with_reducible rfl)
  try simp only [Act.put, List.setIfInBounds_toArray, List.set_cons_zero, List.set_cons_succ]
  refine wpX_take 3 (v := ?_) rfl (by kernel_rfl) (fun _ _ _ h => h) (Or.inl ⟨by rfl, ?_⟩) (by assumption) ?_
  rotate_left
  · intro wq hSq; (try dsimp only at hSq); go_simp; try (with_reducible rfl)
  try simp only [Act.put, List.setIfInBounds_toArray, List.set_cons_zero, List.set_cons_succ]
  refine wpX_take 4 (v := ?_) rfl (by kernel_rfl) (fun _ _ _ h => h) (Or.inl ⟨by rfl, ?_⟩) (by assumption) ?_
  rotate_left
  · intro wq hSq; (try dsimp only at hSq); go_simp; try (with_reducible rfl)
  try simp only [Act.put, List.setIfInBounds_toArray, List.set_cons_zero, List.set_cons_succ]
  refine wpX_take 5 (v := ?_) rfl (by kernel_rfl) (fun _ _ _ h => h) (Or.inl ⟨by rfl, ?_⟩) (by assumption) ?_
  rotate_left
  · intro wq hSq; (try dsimp only at hSq); go_simp; try (with_reducible rfl)
  try simp only [Act.put, List.setIfInBounds_toArray, List.set_cons_zero, List.set_cons_succ]
  refine wpX_take 6 (v := ?_) rfl (by kernel_rfl) (fun _ _ _ h => h) (Or.inl ⟨by rfl, ?_⟩) (by assumption) ?_
  rotate_left
  · intro wq hSq; (try dsimp only at hSq); go_simp; try (with_reducible rfl)
  try simp only [Act.put, List.setIfInBounds_toArray, List.set_cons_zero, List.set_cons_succ]
  refine wpX_one 2 (by kernel_rfl) rfl (fun K hK => ?_)
  go_simp
  refine (HL.out _ H2.out.drew).mono ?_
  rintro e w' ⟨rfl, rfl⟩
  refine hK _ _ (fun _ => by assumption) ?_
  try simp only [Act.put, List.setIfInBounds_toArray, List.set_cons_zero, List.set_cons_succ]
  clear hK K
  refine wpX_take 7 (v := ?_) rfl (by kernel_rfl) (fun _ _ _ h => h) (Or.inl ⟨by rfl, ?_⟩) (by assumption) ?_
  rotate_left
  · intro wq hSq; (try dsimp only at hSq); go_simp; try (with_reducible rfl)
  try simp only [Act.put, List.setIfInBounds_toArray, List.set_cons_zero, List.set_cons_succ]
  refine wpX_one 8 (by kernel_rfl) rfl (fun K hK => ?_)
  go_simp
  obtain ⟨w3, hw3⟩ : ∃ w3, w3 = (w2.alloc (.cells #[ptr d, .int .i64 D.life, ptr (w.heap.size + 1 + 1), .int .i64 2, .int .i64 N, .int .i64 (2 + N), .int .i64 N, .int .i64 0, .int .i64 0, .int .i64 0, .slice none 0 0, .bool false] 65)).drew := ⟨_, rfl⟩
  have hu3 : Upd [] w2 w3 := by rw [hw3]; exact ((Upd.refl [] w2).alloc _).drew
  have hL3 : LogAt w3 w2.heap.size d (w.heap.size + 1 + 1) D.life 2 N (2 + N) N 0 0 0 (.slice none 0 0) false := by rw [hw3]; exact heap_alloc_new w2 _
  have hz3 : w2.heap.size < w3.heap.size := lt_of_block hL3
  have hS3 : w3.cell? ⟨w.heap.size, 0, none⟩ = some (.int .i64 2) ∧ w3.cell? ⟨w.heap.size, 1, none⟩ = some (.int .i64 N) ∧ w3.cell? ⟨w.heap.size + 1, 0, none⟩ = some (.int .i64 (2 + N)) ∧ w3.cell? ⟨w.heap.size + 1, 1, none⟩ = some (.int .i64 N) := ⟨hu3.cell p60 (by simp), hu3.cell p61 (by simp), hu3.cell p70 (by simp), hu3.cell p71 (by simp)⟩
  rw [← hw3]
  refine hK _ _ (fun _ => by assumption) ?_
  try simp only [Act.put, List.setIfInBounds_toArray, List.set_cons_zero, List.set_cons_succ]
  clear hK K
  refine wpX_take 9 (v := ?_) rfl (by kernel_rfl) (fun _ _ _ h => h) (Or.inl ⟨by rfl, ?_⟩) (by assumption) ?_
  rotate_left
  · intro wq hSq; (try dsimp only at hSq); go_simp; try (with_reducible rfl)
  try simp only [Act.put, List.setIfInBounds_toArray, List.set_cons_zero, List.set_cons_succ]
  refine wpX_done (by kernel_rfl) ?_ _
  have H3 := Sd.mk (H2.out.trans hu3)
  have HC3 : Sd (CellAt w3 (w.heap.size + 1 + 1) d 0 D.life) := ⟨HC2.out.upd hu3 (by simp)⟩
  have HL3 := Sd.mk hL3
  have HG := Sd.mk (get_blank (HH.out.keep H3.out) HC3.out HB.out (by omega) (by omega))
  clear hw3 hS3 hS0 hu3 hL3 p60 p61 p70 p71 HC2
  go_wp2_with fail
  refine HG.out.mono ?_
  rintro e w4 ⟨rfl, hU⟩
  have H4 := Sd.mk (H3.out.trans hU)
  have HD4 : Sd (DiskAt (w2.heap.size :: M) w4 d a m D) := ⟨HH.out.grow H4.out (fun x hx => by simp [hx]) (fun x hx => by
    rcases List.mem_cons.1 hx with rfl | hx
    · exact .inr (by omega)
    · exact .inl hx) (fun x hx => by
    rcases List.mem_cons.1 hx with rfl | hx
    · exact Nat.lt_of_lt_of_le hz3 hU.size
    · exact H4.out.lt (HH.out.mlt x hx))⟩
  have hcM : w.heap.size + 1 + 1 ∉ w2.heap.size :: M := by
    intro hx
    rcases List.mem_cons.1 hx with e | hx
    · omega
    · have := HH.out.mlt _ hx; omega
  have HP := Sd.mk (format_blank HD4.out HB.out HT.out N hn (HC3.out.upd hU (by simp)) hcM (HL3.out.upd hU (by simp)) (by simp) (by omega) (by omega) (by omega))
  clear hU HG HC3 HL3
  go_wp2_with fail
  refine HP.out.mono ?_
  rintro e w5 ⟨rfl, hD5, hL5, hU5⟩
  have HD5 := Sd.mk hD5
  have HL5 := Sd.mk hL5
  have H5 := Sd.mk hU5
  clear hD5 hL5 hU5
  go_wp2
  go_ret2
  exact ⟨w2.heap.size, w.heap.size + 1 + 1, rfl, HD5.out, HL5.out, by omega, H4.out.trans' H5.out (by simp) (fun x hx => by
    simp only [List.mem_cons, List.not_mem_nil, or_false] at hx ⊢
    rcases hx with h | h | h | h
    · exact .inl (.inl h)
    · exact .inl (.inr (.inl h))
    · exact .inl (.inr (.inr h))
    · exact .inr (by omega))⟩
end
end Go.Proofs.YtpcndlipdfcnfaaDoor
