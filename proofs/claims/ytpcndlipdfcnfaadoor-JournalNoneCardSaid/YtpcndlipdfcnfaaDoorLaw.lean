/- The law's own functions: start, and JournalNone itself. -/
import Derived.Test.YtpcndlipdfcnfaaDoorLive
import Derived.Test.YtpcndlipdfcnfaaDoorCrash
namespace Go.Proofs.YtpcndlipdfcnfaaDoor
open Go Go.RowKit

set_option maxRecDepth 100000 in
set_option maxHeartbeats 2000000 in
theorem start_is (w : World) : Calls Tryd.prog 6 #[] w fun e w' => ∃ rn d a m lg c D, e = .returned (.tuple #[ptr rn, .bool true]) ∧ DiskAt [lg, rn, d, a, m] w' d a m D ∧ D.life = 0 ∧ LogAt w' lg d c 0 2 40 42 40 0 1 0 (.slice none 0 0) true ∧ w'.cell? ⟨rn, 0, none⟩ = some (ptr d) ∧ w'.cell? ⟨rn, 1, none⟩ = some (ptr lg) ∧ rn ∉ [d, a, m] ∧ lg ∉ [d, a, m] ∧ (∀ x ∈ [lg, rn, d, a, m], w.heap.size ≤ x) ∧ Upd [] w w' := by
  have HN := Sd.mk (new_is [] w 82 (by decide) (by decide) (by simp))
  go_enter Tryd.func6, Tryd.ntmps6
  go_wp2_with fail
  refine HN.out.mono ?_
  rintro e w1 ⟨d, a, m, rfl, hD, hd, ha, hm, hU⟩
  have HD := Sd.mk hD
  have H1 := Sd.mk hU
  have hlt := hD.lt
  clear hD hU HN
  go_wp2
  generalize hy : w1.alloc (.cells #[ptr d, .pointer none, .slice none 0 0, .int .i64 0, .slice none 0 0, .bool false, .int .i64 2, .int .i64 40, .int .i64 42, .int .i64 40, .bool false] 38) = y
  have hb : y.heap[w1.heap.size]? = some (.cells #[ptr d, .pointer none, .slice none 0 0, .int .i64 0, .slice none 0 0, .bool false, .int .i64 2, .int .i64 40, .int .i64 42, .int .i64 40, .bool false] 38 (0, 0)) := by rw [← hy]; exact heap_alloc_new w1 _
  have u1 : Upd [] w1 y := by rw [← hy]; exact (Upd.refl [] w1).alloc _
  clear hy
  have hz : w1.heap.size < y.heap.size := lt_of_block hb
  have hDy : DiskAt [w1.heap.size, d, a, m] y d a m (newS 82) := HD.out.grow u1 (fun x hx => by simp at hx ⊢; omega) (fun x hx => by simp at hx ⊢; omega) (fun x hx => by simp at hx; omega)
  have ho := open_blank (hDy.keep ((Upd.refl [] _).drew)) (newS_blank 82) rfl 40 (.inr ⟨rfl, newS_n 82⟩)
  rw [show (2 + ((40 : Nat) : Int)) = 42 from rfl, show ((40 : Nat) : Int) = 40 from rfl, show (newS 82).life = 0 from rfl, newS_n 82] at ho
  have HO := Sd.mk ho
  have hS0 : y.drew.cell? ⟨w1.heap.size, 6, none⟩ = some (.int .i64 2) ∧ y.drew.cell? ⟨w1.heap.size, 7, none⟩ = some (.int .i64 40) ∧ y.drew.cell? ⟨w1.heap.size, 8, none⟩ = some (.int .i64 42) ∧ y.drew.cell? ⟨w1.heap.size, 9, none⟩ = some (.int .i64 40) := ⟨cell_of hb rfl, cell_of hb rfl, cell_of hb rfl, cell_of hb rfl⟩
  have HBk := Sd.mk hb
  have HU1 := Sd.mk u1
  clear ho hDy hb u1
  refine wp_region_x 17 (fun w' : World => w'.cell? ⟨w1.heap.size, 6, none⟩ = some (.int .i64 2) ∧ w'.cell? ⟨w1.heap.size, 7, none⟩ = some (.int .i64 40) ∧ w'.cell? ⟨w1.heap.size, 8, none⟩ = some (.int .i64 42) ∧ w'.cell? ⟨w1.heap.size, 9, none⟩ = some (.int .i64 40)) rfl ?_
  refine wpX_take 0 (v := ?_) rfl (by kernel_rfl) (fun _ _ _ h => h) (Or.inl ⟨by rfl, ?_⟩) (by assumption) ?_
  rotate_left
  · intro wq hSq; (try dsimp only at hSq); go_simp; try (with_reducible rfl)
  try simp only [Act.put, List.setIfInBounds_toArray, List.set_cons_zero, List.set_cons_succ]
  refine wpX_take 1 (v := ?_) rfl (by kernel_rfl) (fun _ _ _ h => h) (Or.inl ⟨by rfl, ?_⟩) (by assumption) ?_
  rotate_left
  · intro wq hSq; (try dsimp only at hSq); go_simp; try (with_reducible rfl)
  try simp only [Act.put, List.setIfInBounds_toArray, List.set_cons_zero, List.set_cons_succ]
  refine wpX_take 2 (v := ?_) rfl (by kernel_rfl) (fun _ _ _ h => h) (Or.inl ⟨by rfl, ?_⟩) (by assumption) ?_
  rotate_left
  · intro wq hSq; (try dsimp only at hSq); go_simp; try (with_reducible rfl)
  try simp only [Act.put, List.setIfInBounds_toArray, List.set_cons_zero, List.set_cons_succ]
  refine wpX_take 3 (v := ?_) rfl (by kernel_rfl) (fun _ _ _ h => h) (Or.inl ⟨by rfl, ?_⟩) (by assumption) ?_
  rotate_left
  · intro wq hSq; (try dsimp only at hSq); go_simp; try (with_reducible rfl)
  try simp only [Act.put, List.setIfInBounds_toArray, List.set_cons_zero, List.set_cons_succ]
  refine wpX_take 4 (v := ?_) rfl (by kernel_rfl) (fun _ _ _ h => h) (Or.inl ⟨by rfl, ?_⟩) (by assumption) ?_
  rotate_left
  · intro wq hSq; (try dsimp only at hSq); go_simp; try (with_reducible rfl)
  try simp only [Act.put, List.setIfInBounds_toArray, List.set_cons_zero, List.set_cons_succ]
  refine wpX_take 5 (v := ?_) rfl (by kernel_rfl) (fun _ _ _ h => h) (Or.inl ⟨by rfl, ?_⟩) (by assumption) ?_
  rotate_left
  · intro wq hSq; (try dsimp only at hSq); go_simp; try (with_reducible rfl)
  try simp only [Act.put, List.setIfInBounds_toArray, List.set_cons_zero, List.set_cons_succ]
  refine wpX_take 6 (v := ?_) rfl (by kernel_rfl) (fun _ _ _ h => h) (Or.inl ⟨by rfl, ?_⟩) (by assumption) ?_
  rotate_left
  · intro wq hSq; (try dsimp only at hSq); go_simp; try (with_reducible rfl)
  try simp only [Act.put, List.setIfInBounds_toArray, List.set_cons_zero, List.set_cons_succ]
  refine wpX_take 7 (v := ?_) rfl (by kernel_rfl) (fun _ _ _ h => h) (Or.inl ⟨by rfl, ?_⟩) (by assumption) ?_
  rotate_left
  · intro wq hSq; (try dsimp only at hSq); go_simp; try (with_reducible rfl)
  try simp only [Act.put, List.setIfInBounds_toArray, List.set_cons_zero, List.set_cons_succ]
  refine wpX_take 8 (v := ?_) rfl (by kernel_rfl) (fun _ _ _ h => h) (Or.inl ⟨by rfl, ?_⟩) (by assumption) ?_
  rotate_left
  · intro wq hSq; (try dsimp only at hSq); go_simp; try (with_reducible rfl)
  try simp only [Act.put, List.setIfInBounds_toArray, List.set_cons_zero, List.set_cons_succ]
  refine wpX_take 9 (v := ?_) rfl (by kernel_rfl) (fun _ _ _ h => h) (Or.inl ⟨by rfl, ?_⟩) (by assumption) ?_
  rotate_left
  · intro wq hSq; (try dsimp only at hSq); go_simp; try (with_reducible rfl)
  try simp only [Act.put, List.setIfInBounds_toArray, List.set_cons_zero, List.set_cons_succ]
  refine wpX_take 10 (v := ?_) rfl (by kernel_rfl) (fun _ _ _ h => h) (Or.inl ⟨by rfl, ?_⟩) (by assumption) ?_
  rotate_left
  · intro wq hSq; (try dsimp only at hSq); go_simp; try (with_reducible rfl)
  try simp only [Act.put, List.setIfInBounds_toArray, List.set_cons_zero, List.set_cons_succ]
  refine wpX_one 11 (by kernel_rfl) rfl (fun K hK => ?_)
  go_simp
  refine HO.out.mono ?_
  rintro e w2 ⟨lg, c, rfl, ⟨D, hD2, e1, e2, e3, e4⟩, hL2, hlg, hU2⟩
  have hn : w1.heap.size ∉ [d, a, m] := by simp; omega
  have hb2 := hU2.heap (show y.drew.heap[w1.heap.size]? = _ from HBk.out) hn
  have hS2 : w2.cell? ⟨w1.heap.size, 6, none⟩ = some (.int .i64 2) ∧ w2.cell? ⟨w1.heap.size, 7, none⟩ = some (.int .i64 40) ∧ w2.cell? ⟨w1.heap.size, 8, none⟩ = some (.int .i64 42) ∧ w2.cell? ⟨w1.heap.size, 9, none⟩ = some (.int .i64 40) := ⟨cell_of hb2 rfl, cell_of hb2 rfl, cell_of hb2 rfl, cell_of hb2 rfl⟩
  refine hK _ _ (fun _ => by assumption) ?_
  try simp only [Act.put, List.setIfInBounds_toArray, List.set_cons_zero, List.set_cons_succ]
  clear hK K
  refine wpX_take 12 (v := ?_) rfl (by kernel_rfl) (fun _ _ _ h => h) (Or.inl ⟨by rfl, ?_⟩) (by assumption) ?_
  rotate_left
  · intro wq hSq; (try dsimp only at hSq); go_simp; try (with_reducible rfl)
  try simp only [Act.put, List.setIfInBounds_toArray, List.set_cons_zero, List.set_cons_succ]
  refine wpX_take 13 (v := ?_) rfl (by kernel_rfl) (fun _ _ _ h => h) (Or.inl ⟨by rfl, ?_⟩) (by assumption) ?_
  rotate_left
  · intro wq hSq; (try dsimp only at hSq); go_simp; try (with_reducible rfl)
  try simp only [Act.put, List.setIfInBounds_toArray, List.set_cons_zero, List.set_cons_succ]
  refine wpX_take 14 (v := ?_) rfl (by kernel_rfl) (fun _ _ _ h => h) (Or.inl ⟨by rfl, ?_⟩) (by assumption) ?_
  rotate_left
  · intro wq hSq; (try dsimp only at hSq); go_simp; try (with_reducible rfl)
  try simp only [Act.put, List.setIfInBounds_toArray, List.set_cons_zero, List.set_cons_succ]
  refine wpX_take 15 (v := ?_) rfl (by kernel_rfl) (fun _ _ _ h => h) (Or.inl ⟨by rfl, ?_⟩) (by assumption) ?_
  rotate_left
  · intro wq hSq; (try dsimp only at hSq); go_simp; try (with_reducible rfl)
  try simp only [Act.put, List.setIfInBounds_toArray, List.set_cons_zero, List.set_cons_succ]
  refine wpX_take 16 (v := ?_) rfl (by kernel_rfl) (fun _ _ _ h => h) (Or.inl ⟨by rfl, ?_⟩) (by assumption) ?_
  rotate_left
  · intro wq hSq; (try dsimp only at hSq); go_simp; try (with_reducible rfl)
  try simp only [Act.put, List.setIfInBounds_toArray, List.set_cons_zero, List.set_cons_succ]
  refine wpX_done (by kernel_rfl) ?_ _
  have hlg2 : y.heap.size ≤ lg := hlg
  have HB2 := Sd.mk hb2
  have HD2 := Sd.mk hD2
  have HL2 := Sd.mk hL2
  have HE := Sd.mk e4
  have H2 : Sd (Upd [d, a, m] w w2) := ⟨(H1.out.trans HU1.out.drew).then hU2⟩
  have hq : w2.cell? ⟨w1.heap.size, 1, none⟩ = some (.pointer none) := cell_of hb2 rfl
  have hfz := free_of hb2
  have hsz : w.heap.size ≤ w1.heap.size := H1.out.size
  clear hS2 hS0 hb2 hD2 hL2 hU2 e1 e2 e3 e4 hlg HO
  go_wp2
  go_ret2
  have u : Upd [w1.heap.size] w2 (w2.setCell ⟨w1.heap.size, 1, none⟩ (ptr lg)) := (Upd.refl _ _).setCell _ (by simp)
  have hbf := heap_setCell_same (k := 1) (ptr lg) HB2.out
  refine ⟨w1.heap.size, d, a, m, lg, c, D, rfl, HD2.out.upd u (fun x hx => .inl (by simp at hx ⊢; omega)), HE.out, HL2.out.upd u (by simp; omega), cell_of hbf rfl, cell_of hbf rfl, hn, by simp; omega, fun x hx => by simp at hx; omega, H2.out.trans' u (fun x hx => .inr (by simp at hx; omega)) (fun x hx => .inr (by simp at hx; omega))⟩

theorem off_nil (w : World) : Calls Tryd.prog 31 #[.pointer none] w fun e w' => e = .returned (.int .i64 1) ∧ Upd [] w w' := by
  refine (logOff_nil w).mono ?_
  rintro e w' ⟨rfl, rfl⟩
  exact ⟨rfl, Upd.refl _ _⟩
set_option maxRecDepth 100000 in
set_option maxHeartbeats 400000 in
theorem open_nil' (w : World) (x0 x1 x2 x3 x4 : Value) : Calls Tryd.prog 5 #[.pointer none, x0, .agg #[x1, x2], .agg #[x3, x4]] w fun e w' => e = .returned (.tuple #[.pointer none, .int .i64 1]) ∧ Upd [] w w' := by
  go_enter Tryd.func5, Tryd.ntmps5
  go_wp2
  go_ret2
  exact ⟨rfl, ((Upd.refl [] w).alloc _).alloc _⟩
set_option maxRecDepth 100000 in
set_option maxHeartbeats 4000000 in
theorem none_is (w : World) (x0 x1 x2 x3 x4 x5 : Value) (v : Value) : Calls Tryd.prog 3 #[.agg #[x0, x1, x2, x3, x4, x5], v] w fun e w' => e = .returned (.bool true) ∧ Upd [] w w' := by
  go_enter Tryd.func3, Tryd.ntmps3
  go_wp2_with fail
  refine (open_nil' _ _ _ _ _ _).mono ?_
  rintro e w1 ⟨rfl, hU⟩
  have H1 := Sd.mk (((Upd.refl [] w).alloc _).trans hU)
  clear hU
  go_wp2_with fail
  refine (start_is _).mono ?_
  rintro e w2 ⟨rn, d, a, m, lg, c, D, rfl, hD, hlf, hL, hr0, hr1, hrn, hln, hge, hU⟩
  have H2 := Sd.mk (H1.out.trans hU)
  have HG := Sd.mk (fun x hx => Nat.le_trans H1.out.size (hge x hx))
  have HC := Sd.mk (crash_is hD (kv := .slice none 0 0) (keep := []) (Rd.nil _ _) (-1) 0 (by decide) (by omega))
  have HL := Sd.mk hL
  have HR0 := Sd.mk hr0
  have HR1 := Sd.mk hr1
  have HLF := Sd.mk hlf
  clear hD hL hge hU H1 hr1 hlf
  go_wp2_with fail
  refine HC.out.mono ?_
  rintro e w3 ⟨rfl, hD3, hU3⟩
  have HL3 : Sd (LogAt w3 lg d c 0 2 40 42 40 0 1 0 (.slice none 0 0) true) := ⟨HL.out.upd hU3 hln⟩
  have HR3 := Sd.mk (hU3.cell HR1.out hrn)
  have H3 : Sd (Upd [] w w3) := ⟨H2.out.trans' hU3 (by simp) (fun x hx => .inr (HG.out x (by simp at hx ⊢; omega)))⟩
  have HD3 := Sd.mk hD3
  have HO : cellOff (D.crash [] (-1) 0) 0 = 14 := by
    rw [cellOff, if_pos]
    show D.life + 1 ≠ 0
    rw [HLF.out]
    decide
  have HOS := Sd.mk HO
  clear hD3 hU3 HC HO hr0 HR0 HR1 HL
  go_wp2_with fail
  refine (live_is _).mono ?_
  rintro e w4 ⟨rfl, hU4⟩
  have HL4 : Sd (LogAt w4 lg d c 0 2 40 42 40 0 1 0 (.slice none 0 0) true) := ⟨HL3.out.upd hU4 (by simp)⟩
  have HR4 := Sd.mk (hU4.cell HR3.out (by simp))
  have HD4 := Sd.mk (HD3.out.keep hU4)
  have H4 := Sd.mk (H3.out.trans hU4)
  clear hU4 HL3 HR3 HD3 H3
  go_wp2_with fail
  refine (append_off (e0 := 1) rfl (off_nil _)).mono ?_
  rintro e w5 ⟨rfl, hU5⟩
  have K5 := Sd.mk hU5
  clear hU5
  go_wp2_with fail
  refine (logFlush_off (e0 := 1) rfl rfl (off_nil _)).mono ?_
  rintro e w6 ⟨rfl, hU6⟩
  have K6 := Sd.mk (K5.out.trans hU6)
  clear hU6
  go_wp2_with fail
  refine (renew_off (e0 := 1) rfl (off_nil _)).mono ?_
  rintro e w7 ⟨rfl, hU7⟩
  have K7 := Sd.mk (K6.out.trans hU7)
  clear hU7
  go_wp2_with fail
  refine (settled_nil _).mono ?_
  rintro e w' ⟨rfl, rfl⟩
  go_wp2_with fail
  refine (left_nil _).mono ?_
  rintro e w' ⟨rfl, rfl⟩
  go_wp2_with fail
  refine (records_nil _).mono ?_
  rintro e w' ⟨rfl, rfl⟩
  have hq7 := K7.out.cell HR4.out (by simp)
  have hO7 := logOff_is (HD4.out.keep K7.out) (HL4.out.upd K7.out (by simp))
  rw [HOS.out] at hO7
  have HO7 := Sd.mk hO7
  clear hO7
  go_wp2_with fail
  refine (append_off (e0 := 14) rfl HO7.out).mono ?_
  rintro e w8 ⟨rfl, hU8⟩
  have K8 := Sd.mk (K7.out.trans hU8)
  have hq8 := K8.out.cell HR4.out (by simp)
  have hO8 := logOff_is (HD4.out.keep K8.out) (HL4.out.upd K8.out (by simp))
  rw [HOS.out] at hO8
  have HO8 := Sd.mk hO8
  clear hO8 hU8 hq7
  go_wp2_with fail
  refine (logFlush_off (e0 := 14) rfl rfl HO8.out).mono ?_
  rintro e w9 ⟨rfl, hU9⟩
  have K9 := Sd.mk (K8.out.trans hU9)
  have hq9 := K9.out.cell HR4.out (by simp)
  have hO9 := logOff_is (HD4.out.keep K9.out) (HL4.out.upd K9.out (by simp))
  rw [HOS.out] at hO9
  have HO9 := Sd.mk hO9
  clear hO9 hU9 hq8
  go_wp2_with fail
  refine (renew_off (e0 := 14) rfl HO9.out).mono ?_
  rintro e w10 ⟨rfl, hU10⟩
  have K10 := Sd.mk (K9.out.trans hU10)
  clear hU10
  go_wp2
  go_ret
  exact ⟨rfl, H4.out.trans K10.out⟩
end Go.Proofs.YtpcndlipdfcnfaaDoor
