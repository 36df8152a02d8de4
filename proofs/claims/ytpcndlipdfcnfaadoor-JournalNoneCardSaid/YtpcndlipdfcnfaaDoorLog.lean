/- A journal: the small functions, and the answers of a nil one. -/
import Derived.Test.YtpcndlipdfcnfaaDoorSlotR
namespace Go.Proofs.YtpcndlipdfcnfaaDoor
open Go Go.RowKit

/-- A journal's block. -/
def LogAt (w : World) (lg d c : Nat) (life a0 n0 a1 n1 area epoch fin : Int) (recs : Value) (settled : Bool) : Prop :=
  w.heap[lg]? = some (.cells #[ptr d, .int .i64 life, ptr c, .int .i64 a0, .int .i64 n0, .int .i64 a1, .int .i64 n1, .int .i64 area, .int .i64 epoch, .int .i64 fin, recs, .bool settled] 65 (0, 0))
section
variable {M : List Nat} {w : World} {d a m c lg : Nat} {D : DiskS} {base life a0 n0 a1 n1 area epoch fin : Int} {recs : Value} {settled : Bool}
theorem LogAt.upd {S : List Nat} {w' : World} (h : LogAt w lg d c life a0 n0 a1 n1 area epoch fin recs settled) (u : Upd S w w') (hS : lg ∉ S) : LogAt w' lg d c life a0 n0 a1 n1 area epoch fin recs settled := u.heap h hS

set_option maxRecDepth 100000 in
set_option maxHeartbeats 400000 in
theorem logOff_nil (w : World) : Calls Tryd.prog 31 #[.pointer none] w fun e w' => e = .returned (.int .i64 1) ∧ w = w' := by
  go_enter Tryd.func31, Tryd.ntmps31
  go_wp2
  go_ret
  exact ⟨rfl, rfl⟩

set_option maxRecDepth 100000 in
set_option maxHeartbeats 400000 in
theorem logOff_is (h : DiskAt M w d a m D) (hl : LogAt w lg d c life a0 n0 a1 n1 area epoch fin recs settled) : Calls Tryd.prog 31 #[ptr lg] w fun e w' => e = .returned (.int .i64 (cellOff D life)) ∧ Upd [] w w' := by
  have hD := down_is (h.keep ((Upd.refl [] w).drew))
  have HL := Sd.mk (life_is (h.keep ((Upd.refl [] w).drew)))
  have hc0 : w.cell? ⟨lg, 0, none⟩ = some (ptr d) := cell_of hl rfl
  have hc2 : w.cell? ⟨lg, 1, none⟩ = some (.int .i64 life) := cell_of hl rfl
  clear h hl
  obtain ⟨dn, hdn⟩ : ∃ dn, dn = D.down := ⟨_, rfl⟩
  obtain ⟨lf, hlf⟩ : ∃ lf, lf = D.life := ⟨_, rfl⟩
  rw [← hdn] at hD
  rw [← hlf] at HL
  have HE := Sd.mk (show cellOff D life = if lf ≠ life then 14 else if dn then 7 else 0 by rw [cellOff, hdn, hlf])
  have HD := Sd.mk hD
  clear hdn hlf hD
  have hb : (lf != life) = true ∧ lf ≠ life ∨ (lf != life) = false ∧ lf = life := by
    by_cases h1 : lf = life
    · exact .inr ⟨by simp [h1], h1⟩
    · exact .inl ⟨by simp [h1], h1⟩
  go_enter Tryd.func31, Tryd.ntmps31
  go_wp2
  refine wp_region_x 11 (fun w' : World => w'.cell? ⟨lg, 0, none⟩ = some (ptr d) ∧ w'.cell? ⟨lg, 1, none⟩ = some (.int .i64 life)) rfl ?_
  have hS0 : w.drew.cell? ⟨lg, 0, none⟩ = some (ptr d) ∧ w.drew.cell? ⟨lg, 1, none⟩ = some (.int .i64 life) := ⟨hc0, hc2⟩
  refine wpX_take 0 (v := ?_) rfl (by kernel_rfl) (fun _ _ _ h => h) (Or.inl ⟨by rfl, ?_⟩) (by assumption) ?_
  rotate_left
  · intro wq hSq; (try dsimp only at hSq); go_simp; try (with_reducible rfl)
  try simp only [Act.put, List.setIfInBounds_toArray, List.set_cons_zero, List.set_cons_succ]
  refine wpX_take 1 (v := ?_) rfl (by kernel_rfl) (fun _ _ _ h => h) (Or.inl ⟨by rfl, ?_⟩) (by assumption) ?_
  rotate_left
  · intro wq hSq; (try dsimp only at hSq); go_simp; try (with_reducible rfl)
  try simp only [Act.put, List.setIfInBounds_toArray, List.set_cons_zero, List.set_cons_succ]
  refine wpX_take 2 (v := ?_) rfl (by kernel_rfl) (fun _ _ _ h => h) (Or.inl ⟨by rfl, ?_⟩) (by assumption) ?_
  rotate_left
  · intro wq hSq; (try dsimp only at hSq); go_simp; try (with_reducible rfl)
  try simp only [Act.put, List.setIfInBounds_toArray, List.set_cons_zero, List.set_cons_succ]
  refine wpX_take 3 (v := ?_) rfl (by kernel_rfl) (fun _ _ _ h => h) (Or.inl ⟨by rfl, ?_⟩) (by assumption) ?_
  rotate_left
  · intro wq hSq; (try dsimp only at hSq); go_simp; try (with_reducible rfl)
  try simp only [Act.put, List.setIfInBounds_toArray, List.set_cons_zero, List.set_cons_succ]
  refine wpX_take 5 (v := ?_) rfl (by kernel_rfl) (fun _ _ _ h => h) (Or.inl ⟨by rfl, ?_⟩) (by assumption) ?_
  rotate_left
  · intro wq hSq; (try dsimp only at hSq); go_simp; try (with_reducible rfl)
  try simp only [Act.put, List.setIfInBounds_toArray, List.set_cons_zero, List.set_cons_succ]
  refine wpX_take 6 (v := ?_) rfl (by kernel_rfl) (fun _ _ _ h => h) (Or.inl ⟨by rfl, ?_⟩) (by assumption) ?_
  rotate_left
  · intro wq hSq; (try dsimp only at hSq); go_simp; try (with_reducible rfl)
  try simp only [Act.put, List.setIfInBounds_toArray, List.set_cons_zero, List.set_cons_succ]
  refine wpX_take 7 (v := ?_) rfl (by kernel_rfl) (fun _ _ _ h => h) (Or.inl ⟨by rfl, ?_⟩) (by assumption) ?_
  rotate_left
  · intro wq hSq; (try dsimp only at hSq); go_simp; try (with_reducible rfl)
  try simp only [Act.put, List.setIfInBounds_toArray, List.set_cons_zero, List.set_cons_succ]
  refine wpX_take 8 (v := ?_) rfl (by kernel_rfl) (fun _ _ _ h => h) (Or.inl ⟨by rfl, ?_⟩) (by assumption) ?_
  rotate_left
  · intro wq hSq; (try dsimp only at hSq); go_simp; try (with_reducible rfl)
  try simp only [Act.put, List.setIfInBounds_toArray, List.set_cons_zero, List.set_cons_succ]
  refine wpX_one 4 (by kernel_rfl) rfl (fun K hK => ?_)
  go_simp
  refine HL.out.mono ?_
  rintro e w' ⟨rfl, rfl⟩
  refine hK _ _ (fun _ => by assumption) ?_
  try simp only [Act.put, List.setIfInBounds_toArray, List.set_cons_zero, List.set_cons_succ]
  clear hK K
  refine wpX_take 9 (v := ?_) rfl (by kernel_rfl) (fun _ _ _ h => h) (Or.inl ⟨by rfl, ?_⟩) (by assumption) ?_
  rotate_left
  · intro wq hSq; (try dsimp only at hSq); go_simp; try (with_reducible rfl)
  try simp only [Act.put, List.setIfInBounds_toArray, List.set_cons_zero, List.set_cons_succ]
  refine wpX_take 10 (v := ?_) rfl (by kernel_rfl) (fun _ _ _ h => h) (Or.inl ⟨by rfl, ?_⟩) (by assumption) ?_
  rotate_left
  · intro wq hSq; (try dsimp only at hSq); go_simp; try (with_reducible rfl)
  try simp only [Act.put, List.setIfInBounds_toArray, List.set_cons_zero, List.set_cons_succ]
  refine wpX_done (by kernel_rfl) ?_ _
  rcases hb with ⟨h1, h2⟩ | ⟨h1, h2⟩
  · go_wp2
    go_ret
    exact ⟨by rw [HE.out, if_pos h2]; rfl, (Upd.refl _ _).drew⟩
  · cases dn with
    | true =>
      go_wp2_with (go_at_call 38; refine HD.out.mono ?_; rintro e w' ⟨rfl, rfl⟩)
      go_ret
      exact ⟨by rw [HE.out, if_neg (by simp [h2]), if_pos trivial]; rfl, (Upd.refl _ _).drew⟩
    | false =>
      go_wp2_with (go_at_call 38; refine HD.out.mono ?_; rintro e w' ⟨rfl, rfl⟩)
      go_ret
      exact ⟨by rw [HE.out, if_neg (by simp [h2]), if_neg (by simp)]; rfl, (Upd.refl _ _).drew⟩

/-! ### whoever is off answers so -/
set_option maxRecDepth 100000 in
set_option maxHeartbeats 400000 in
theorem append_off {p v : Value} {e0 : Int} (he : (e0 != 0) = true) (ho : Calls Tryd.prog 31 #[p] w fun e w' => e = .returned (.int .i64 e0) ∧ Upd [] w w') :
    Calls Tryd.prog 9 #[p, v] w fun e w' => e = .returned (.int .i64 e0) ∧ Upd [] w w' := by
  have HO := Sd.mk ho
  clear ho
  go_enter Tryd.func9, Tryd.ntmps9
  go_wp2_with fail
  refine HO.out.mono ?_
  rintro e w1 ⟨rfl, hU⟩
  have H1 := Sd.mk hU
  clear hU
  go_wp2
  go_ret
  exact ⟨rfl, H1.out⟩
set_option maxRecDepth 100000 in
set_option maxHeartbeats 400000 in
theorem renew_off {p v : Value} {e0 : Int} (he : (e0 != 0) = true) (ho : Calls Tryd.prog 31 #[p] w fun e w' => e = .returned (.int .i64 e0) ∧ Upd [] w w') :
    Calls Tryd.prog 11 #[p, v] w fun e w' => e = .returned (.int .i64 e0) ∧ Upd [] w w' := by
  have HO := Sd.mk ho
  clear ho
  go_enter Tryd.func11, Tryd.ntmps11
  go_wp2_with fail
  refine HO.out.mono ?_
  rintro e w1 ⟨rfl, hU⟩
  have H1 := Sd.mk hU
  clear hU
  go_wp2
  go_ret
  exact ⟨rfl, H1.out⟩
set_option maxRecDepth 100000 in
set_option maxHeartbeats 400000 in
theorem logFlush_off {p : Value} {e0 : Int} (he : (e0 == 0) = false) (he' : (e0 == 7) = false) (ho : Calls Tryd.prog 31 #[p] w fun e w' => e = .returned (.int .i64 e0) ∧ Upd [] w w') :
    Calls Tryd.prog 10 #[p] w fun e w' => e = .returned (.int .i64 e0) ∧ Upd [] w w' := by
  have HO := Sd.mk ho
  clear ho
  go_enter Tryd.func10, Tryd.ntmps10
  go_wp2_with fail
  refine HO.out.mono ?_
  rintro e w1 ⟨rfl, hU⟩
  have H1 := Sd.mk hU
  clear hU
  go_wp2
  go_ret
  exact ⟨rfl, H1.out⟩
set_option maxRecDepth 100000 in
set_option maxHeartbeats 400000 in
theorem settled_nil (w : World) : Calls Tryd.prog 12 #[.pointer none] w fun e w' => e = .returned (.bool false) ∧ w = w' := by
  go_enter Tryd.func12, Tryd.ntmps12
  go_wp2
  go_ret
  exact ⟨rfl, rfl⟩
set_option maxRecDepth 100000 in
set_option maxHeartbeats 400000 in
theorem left_nil (w : World) : Calls Tryd.prog 13 #[.pointer none] w fun e w' => e = .returned (.int .i64 0) ∧ w = w' := by
  go_enter Tryd.func13, Tryd.ntmps13
  go_wp2
  go_ret
  exact ⟨rfl, rfl⟩
set_option maxRecDepth 100000 in
set_option maxHeartbeats 400000 in
theorem records_nil (w : World) : Calls Tryd.prog 14 #[.pointer none] w fun e w' => e = .returned (.slice none 0 0) ∧ w = w' := by
  go_enter Tryd.func14, Tryd.ntmps14
  go_wp2
  go_ret
  exact ⟨rfl, rfl⟩
set_option maxRecDepth 100000 in
set_option maxHeartbeats 400000 in
theorem open_nil (w : World) (base x1 x2 x3 x4 : Int) : Calls Tryd.prog 5 #[.pointer none, .int .i64 base, .agg #[.int .i64 x1, .int .i64 x2], .agg #[.int .i64 x3, .int .i64 x4]] w fun e w' => e = .returned (.tuple #[.pointer none, .int .i64 1]) ∧ Upd [] w w' := by
  go_enter Tryd.func5, Tryd.ntmps5
  go_wp2
  go_ret2
  exact ⟨rfl, ((Upd.refl [] w).alloc _).alloc _⟩

/-! ### small functions -/
set_option maxRecDepth 100000 in
set_option maxHeartbeats 400000 in
theorem settled_is (hl : LogAt w lg d c life a0 n0 a1 n1 area epoch fin recs settled) : Calls Tryd.prog 12 #[ptr lg] w fun e w' => e = .returned (.bool settled) ∧ w = w' := by
  have hc : w.cell? ⟨lg, 11, none⟩ = some (.bool settled) := cell_of hl rfl
  clear hl
  go_enter Tryd.func12, Tryd.ntmps12
  go_wp2
  go_ret
  exact ⟨rfl, rfl⟩
set_option maxRecDepth 100000 in
set_option maxHeartbeats 400000 in
theorem left_is (hl : LogAt w lg d c life a0 n0 a1 n1 0 epoch fin recs settled) (hn : 0 ≤ n0) (hn' : n0 ≤ 4096) (hf : 0 ≤ fin) (hf' : fin ≤ 4096) : Calls Tryd.prog 13 #[ptr lg] w fun e w' => e = .returned (.int .i64 (n0 - fin)) ∧ Upd [] w w' := by
  have hc : w.cell? ⟨lg, 7, none⟩ = some (.int .i64 0) := cell_of hl rfl
  have hc1 : w.cell? ⟨lg, 4, none⟩ = some (.int .i64 n0) := cell_of hl rfl
  have hc2 : w.cell? ⟨lg, 9, none⟩ = some (.int .i64 fin) := cell_of hl rfl
  clear hl
  go_enter Tryd.func13, Tryd.ntmps13
  have hwr : IntKind.i64.wrap (n0 - fin) = n0 - fin := by rw [IntKind.wrap_i64]; omega
  go_wp2
  refine wp_region_x 16 (fun w' : World => w'.cell? ⟨lg, 7, none⟩ = some (.int .i64 0) ∧ w'.cell? ⟨lg, 4, none⟩ = some (.int .i64 n0) ∧ w'.cell? ⟨lg, 9, none⟩ = some (.int .i64 fin)) rfl ?_
  have hS0 : w.drew.cell? ⟨lg, 7, none⟩ = some (.int .i64 0) ∧ w.drew.cell? ⟨lg, 4, none⟩ = some (.int .i64 n0) ∧ w.drew.cell? ⟨lg, 9, none⟩ = some (.int .i64 fin) := ⟨hc, hc1, hc2⟩
  refine wpX_take 0 (v := ?_) rfl (by kernel_rfl) (fun _ _ _ h => h) (Or.inl ⟨by rfl, ?_⟩) (by assumption) ?_
  rotate_left
  · intro wq hSq; (try dsimp only at hSq); go_simp; try (with_reducible rfl)
  try simp only [Act.put, List.setIfInBounds_toArray, List.set_cons_zero, List.set_cons_succ]
  refine wpX_take 1 (v := ?_) rfl (by kernel_rfl) (fun _ _ _ h => h) (Or.inl ⟨by rfl, ?_⟩) (by assumption) ?_
  rotate_left
  · intro wq hSq; (try dsimp only at hSq); go_simp; try (with_reducible rfl)
  try simp only [Act.put, List.setIfInBounds_toArray, List.set_cons_zero, List.set_cons_succ]
  refine wpX_take 2 (v := ?_) rfl (by kernel_rfl) (fun _ _ _ h => h) (Or.inl ⟨by rfl, ?_⟩) (by assumption) ?_
  rotate_left
  · intro wq hSq; (try dsimp only at hSq); go_simp; try (with_reducible rfl)
  try simp only [Act.put, List.setIfInBounds_toArray, List.set_cons_zero, List.set_cons_succ]
  refine wpX_take 3 (v := ?_) rfl (by kernel_rfl) (fun _ _ _ h => h) (Or.inl ⟨by rfl, ?_⟩) (by assumption) ?_
  rotate_left
  · intro wq hSq; (try dsimp only at hSq); go_simp; try (with_reducible rfl)
  try simp only [Act.put, List.setIfInBounds_toArray, List.set_cons_zero, List.set_cons_succ]
  refine wpX_take 4 (v := ?_) rfl (by kernel_rfl) (fun _ _ _ h => h) (Or.inl ⟨by rfl, ?_⟩) (by assumption) ?_
  rotate_left
  · intro wq hSq; (try dsimp only at hSq); go_simp; try (with_reducible rfl)
  try simp only [Act.put, List.setIfInBounds_toArray, List.set_cons_zero, List.set_cons_succ]
  refine wpX_take 5 (v := ?_) rfl (by kernel_rfl) (fun _ _ _ h => h) (Or.inl ⟨by rfl, ?_⟩) (by assumption) ?_
  rotate_left
  · intro wq hSq; (try dsimp only at hSq); go_simp; try (with_reducible rfl)
  try simp only [Act.put, List.setIfInBounds_toArray, List.set_cons_zero, List.set_cons_succ]
  refine wpX_take 6 (v := ?_) rfl (by kernel_rfl) (fun _ _ _ h => h) (Or.inl ⟨by rfl, ?_⟩) (by assumption) ?_
  rotate_left
  · intro wq hSq; (try dsimp only at hSq); go_simp; try (with_reducible rfl)
  try simp only [Act.put, List.setIfInBounds_toArray, List.set_cons_zero, List.set_cons_succ]
  refine wpX_take 7 (v := ?_) rfl (by kernel_rfl) (fun _ _ _ h => h) (Or.inl ⟨by rfl, ?_⟩) (by assumption) ?_
  rotate_left
  · intro wq hSq; (try dsimp only at hSq); go_simp; try (with_reducible rfl)
  try simp only [Act.put, List.setIfInBounds_toArray, List.set_cons_zero, List.set_cons_succ]
  refine wpX_take 8 (v := ?_) rfl (by kernel_rfl) (fun _ _ _ h => h) (Or.inl ⟨by rfl, ?_⟩) (by assumption) ?_
  rotate_left
  · intro wq hSq; (try dsimp only at hSq); go_simp; try (with_reducible rfl)
  try simp only [Act.put, List.setIfInBounds_toArray, List.set_cons_zero, List.set_cons_succ]
  refine wpX_take 9 (v := ?_) rfl (by kernel_rfl) (fun _ _ _ h => h) (Or.inl ⟨by rfl, ?_⟩) (by assumption) ?_
  rotate_left
  · intro wq hSq; (try dsimp only at hSq); go_simp; try (with_reducible rfl)
  try simp only [Act.put, List.setIfInBounds_toArray, List.set_cons_zero, List.set_cons_succ]
  refine wpX_take 10 (v := ?_) rfl (by kernel_rfl) (fun _ _ _ h => h) (Or.inl ⟨by rfl, ?_⟩) (by assumption) ?_
  rotate_left
  · intro wq hSq; (try dsimp only at hSq); go_simp; try (with_reducible rfl)
  try simp only [Act.put, List.setIfInBounds_toArray, List.set_cons_zero, List.set_cons_succ]
  refine wpX_take 11 (v := ?_) rfl (by kernel_rfl) (fun _ _ _ h => h) (Or.inl ⟨by rfl, ?_⟩) (by assumption) ?_
  rotate_left
  · intro wq hSq; (try dsimp only at hSq); go_simp; try (with_reducible rfl)
  try simp only [Act.put, List.setIfInBounds_toArray, List.set_cons_zero, List.set_cons_succ]
  refine wpX_take 12 (v := ?_) rfl (by kernel_rfl) (fun _ _ _ h => h) (Or.inl ⟨by rfl, ?_⟩) (by assumption) ?_
  rotate_left
  · intro wq hSq; (try dsimp only at hSq); go_simp; try (with_reducible rfl)
  try simp only [Act.put, List.setIfInBounds_toArray, List.set_cons_zero, List.set_cons_succ]
  refine wpX_take 13 (v := ?_) rfl (by kernel_rfl) (fun _ _ _ h => h) (Or.inl ⟨by rfl, ?_⟩) (by assumption) ?_
  rotate_left
  · intro wq hSq; (try dsimp only at hSq); go_simp; try (with_reducible rfl)
  try simp only [Act.put, List.setIfInBounds_toArray, List.set_cons_zero, List.set_cons_succ]
  refine wpX_take 14 (v := ?_) rfl (by kernel_rfl) (fun _ _ _ h => h) (Or.inl ⟨by rfl, ?_⟩) (by assumption) ?_
  rotate_left
  · intro wq hSq; (try dsimp only at hSq); go_simp; try (with_reducible rfl)
  try simp only [Act.put, List.setIfInBounds_toArray, List.set_cons_zero, List.set_cons_succ]
  refine wpX_take 15 (v := ?_) rfl (by kernel_rfl) (fun _ _ _ h => h) (Or.inl ⟨by rfl, ?_⟩) (by assumption) ?_
  rotate_left
  · intro wq hSq; (try dsimp only at hSq); go_simp; try (with_reducible rfl)
  try simp only [Act.put, List.setIfInBounds_toArray, List.set_cons_zero, List.set_cons_succ]
  refine wpX_done (by kernel_rfl) ?_ _
  go_wp2
  go_ret
  exact ⟨rfl, (Upd.refl _ _).drew⟩
set_option maxRecDepth 100000 in
set_option maxHeartbeats 400000 in
theorem num_zeros {v : Value} (hv : Bs M w v (List.replicate 128 0)) (at_ : Nat) (h : at_ + 6 ≤ 128) :
    Calls Tryd.prog 54 #[v, .int .i64 at_, .int .i64 6] w fun e w' => e = .returned (.int .i64 0) ∧ w = w' := by
  have ht := takeFixed_ok hv at_ 6 (by decide) (by decide) (by simpa using h)
  rw [tf_zeros 128 at_ 6] at ht
  rw [show tfN 0 = 0 from rfl, show tfE 0 = 0 from rfl] at ht
  have HT := Sd.mk ht
  clear ht hv
  go_enter Tryd.func54, Tryd.ntmps54
  go_wp2_with (go_at_call 70; refine HT.out.mono ?_; rintro e w' ⟨rfl, rfl⟩)
  go_ret
  exact ⟨rfl, rfl⟩
theorem runs_0 (x0 x1 x2 x3 : Value) (w : World) : (Instr.index 36 (.agg #[x0, x1, x2, x3]) (.int .i64 0)).run Tryd.prog w = .ok (.agg #[x0, x1]) w := by kernel_rfl
theorem runs_1 (x0 x1 x2 x3 : Value) (w : World) : (Instr.index 36 (.agg #[x0, x1, x2, x3]) (.int .i64 1)).run Tryd.prog w = .ok (.agg #[x2, x3]) w := by kernel_rfl
set_option maxRecDepth 100000 in
set_option maxHeartbeats 1000000 in
theorem fits_ok (h : DiskAt M w d a m D) (hN : (n0 = 9 ∧ D.n = 20) ∨ (n0 = 40 ∧ D.n = 82)) :
    Calls Tryd.prog 21 #[ptr d, .int .i64 0, .agg #[.int .i64 2, .int .i64 n0], .agg #[.int .i64 (2 + n0), .int .i64 n0]] w fun e w' => e = .returned (.bool true) ∧ Upd [] w w' := by
  have hs := fun o1 o2 => sectors_is (h.keep (((Upd.refl [] w).alloc o1).alloc o2))
  have hr0 := runs_0
  have hr1 := runs_1
  clear h
  rcases hN with ⟨rfl, h1⟩ | ⟨rfl, h1⟩
  · rw [h1] at hs
    have HS := Sd.mk hs
    clear hs
    go_enter Tryd.func21, Tryd.ntmps21
    go_wp2_with (go_at_call 39; refine (HS.out _ _).mono ?_; rintro e w' ⟨rfl, rfl⟩)
    go_loopg [17] 2 (fun g k wr => ∃ i : Nat, i ≤ 2 ∧ k = .int .i64 i ∧ Sd (g = 2 - i) ∧ Sd (Upd [] ((w.alloc (.cells #[.int .i64 2, .int .i64 9] 23)).alloc (.cells #[.int .i64 11, .int .i64 9] 23)) wr))
    case atStart => exact ⟨0, by omega, rfl, ⟨rfl⟩, ⟨Upd.refl _ _⟩⟩
    case round =>
      obtain ⟨i, hi, rfl, hg, hu⟩ := hrel
      by_cases hlt : i < 2
      · obtain rfl | rfl : i = 0 ∨ i = 1 := by omega
        · go_wp2
          have hg1 := hg.out
          go_roundg 1
          case measure => omega
          case rel => exact ⟨1, by omega, rfl, ⟨rfl⟩, ⟨((hu.out.alloc _).alloc _).alloc _⟩⟩
        · go_wp2
          have hg1 := hg.out
          go_roundg 0
          case measure => omega
          case rel => exact ⟨2, by omega, rfl, ⟨rfl⟩, ⟨((hu.out.alloc _).alloc _).alloc _⟩⟩
      · obtain rfl : i = 2 := by omega
        have h6 := hu.out.heap (heap_alloc_lt _ (by simp) |>.trans (heap_alloc_new w _)) (by simp)
        have h7 := hu.out.heap (heap_alloc2_new w _ _) (by simp)
        have a0 := cell_of (k := 0) h6 rfl
        have a1 := cell_of (k := 1) h6 rfl
        have b0 := cell_of (k := 0) h7 rfl
        have b1 := cell_of (k := 1) h7 rfl
        clear h6 h7
        go_wp2
        go_ret
        exact ⟨rfl, ((((Upd.refl [] w).alloc _).alloc _).trans (hu.out.alloc _)).alloc _⟩
  · rw [h1] at hs
    have HS := Sd.mk hs
    clear hs
    go_enter Tryd.func21, Tryd.ntmps21
    go_wp2_with (go_at_call 39; refine (HS.out _ _).mono ?_; rintro e w' ⟨rfl, rfl⟩)
    go_loopg [17] 2 (fun g k wr => ∃ i : Nat, i ≤ 2 ∧ k = .int .i64 i ∧ Sd (g = 2 - i) ∧ Sd (Upd [] ((w.alloc (.cells #[.int .i64 2, .int .i64 40] 23)).alloc (.cells #[.int .i64 42, .int .i64 40] 23)) wr))
    case atStart => exact ⟨0, by omega, rfl, ⟨rfl⟩, ⟨Upd.refl _ _⟩⟩
    case round =>
      obtain ⟨i, hi, rfl, hg, hu⟩ := hrel
      by_cases hlt : i < 2
      · obtain rfl | rfl : i = 0 ∨ i = 1 := by omega
        · go_wp2
          have hg1 := hg.out
          go_roundg 1
          case measure => omega
          case rel => exact ⟨1, by omega, rfl, ⟨rfl⟩, ⟨((hu.out.alloc _).alloc _).alloc _⟩⟩
        · go_wp2
          have hg1 := hg.out
          go_roundg 0
          case measure => omega
          case rel => exact ⟨2, by omega, rfl, ⟨rfl⟩, ⟨((hu.out.alloc _).alloc _).alloc _⟩⟩
      · obtain rfl : i = 2 := by omega
        have h6 := hu.out.heap (heap_alloc_lt _ (by simp) |>.trans (heap_alloc_new w _)) (by simp)
        have h7 := hu.out.heap (heap_alloc2_new w _ _) (by simp)
        have a0 := cell_of (k := 0) h6 rfl
        have a1 := cell_of (k := 1) h6 rfl
        have b0 := cell_of (k := 0) h7 rfl
        have b1 := cell_of (k := 1) h7 rfl
        clear h6 h7
        go_wp2
        go_ret
        exact ⟨rfl, ((((Upd.refl [] w).alloc _).alloc _).trans (hu.out.alloc _)).alloc _⟩
end
end Go.Proofs.YtpcndlipdfcnfaaDoor
