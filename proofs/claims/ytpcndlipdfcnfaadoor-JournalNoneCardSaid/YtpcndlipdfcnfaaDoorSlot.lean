/- A cell: what its functions do. -/
import Derived.Test.YtpcndlipdfcnfaaDoorFlush
import Derived.Test.YtpcndlipdfcnfaaDoorRunes
import Derived.Test.YtpcndlipdfcnfaaDoorRegion
import Derived.ArgAppend
namespace Go.Proofs.YtpcndlipdfcnfaaDoor
open Go Go.RowKit

/-- The cell c of w. -/
def CellAt (w : World) (c d : Nat) (base life : Int) : Prop := w.heap[c]? = some (.cells #[ptr d, .int .i64 base, .int .i64 life] 86 (0, 0))
theorem CellAt.upd {S : List Nat} {w w' : World} {c d : Nat} {base life : Int} (h : CellAt w c d base life) (u : Upd S w w') (hS : c ∉ S) : CellAt w' c d base life := u.heap h hS
theorem CellAt.cells {w : World} {c d : Nat} {base life : Int} (h : CellAt w c d base life) : w.cell? ⟨c, 0, none⟩ = some (ptr d) ∧ w.cell? ⟨c, 1, none⟩ = some (.int .i64 base) ∧ w.cell? ⟨c, 2, none⟩ = some (.int .i64 life) :=
  ⟨cell_of h rfl, cell_of h rfl, cell_of h rfl⟩

section
variable {M : List Nat} {w : World} {d a m c : Nat} {D : DiskS} {base life : Int}

set_option maxRecDepth 100000 in
set_option maxHeartbeats 400000 in
theorem slotOpen_nil (w : World) (base : Int) : Calls Tryd.prog 20 #[.pointer none, .int .i64 base] w fun e w' => e = .returned (.tuple #[.pointer none, .int .i64 1]) ∧ w = w' := by
  go_enter Tryd.func20, Tryd.ntmps20
  go_wp2
  go_ret2
  exact ⟨rfl, rfl⟩

set_option maxRecDepth 100000 in
set_option maxHeartbeats 400000 in
theorem slotOpen_ok (h : DiskAt M w d a m D) (hd : D.down = false) (h0 : 0 ≤ base) (h1 : base < (D.n : Int) - 1) :
    Calls Tryd.prog 20 #[ptr d, .int .i64 base] w fun e w' => e = .returned (.tuple #[ptr w.heap.size, .int .i64 0]) ∧ CellAt w' w.heap.size d base D.life ∧ Upd [] w w' := by
  have HD := Sd.mk (down_is h)
  rw [hd] at HD
  have HS := Sd.mk (sectors_is h)
  have HL := Sd.mk (life_is h)
  have hn := h.ok.n2
  clear h hd
  go_enter Tryd.func20, Tryd.ntmps20
  go_wp2_with (first | (go_at_call 38; refine HD.out.mono ?_; rintro e w' ⟨rfl, rfl⟩) | (go_at_call 39; refine HS.out.mono ?_; rintro e w' ⟨rfl, rfl⟩) | (go_at_call 22; refine HL.out.mono ?_; rintro e w' ⟨rfl, rfl⟩))
  go_ret2
  exact ⟨rfl, heap_alloc_new _ _, (Upd.refl _ _).alloc _⟩

/-- off. -/
def cellOff (D : DiskS) (life : Int) : Int := if D.life ≠ life then 14 else if D.down then 7 else 0
set_option maxRecDepth 100000 in
set_option maxHeartbeats 400000 in
theorem cellOff_is (h : DiskAt M w d a m D) (hc : CellAt w c d base life) : Calls Tryd.prog 41 #[ptr c] w fun e w' => e = .returned (.int .i64 (cellOff D life)) ∧ Upd [] w w' := by
  have hD := down_is (h.keep ((Upd.refl [] w).drew))
  have HL := Sd.mk (life_is (h.keep ((Upd.refl [] w).drew)))
  obtain ⟨hc0, -, hc2⟩ := hc.cells
  clear h hc
  obtain ⟨dn, hdn⟩ : ∃ dn, dn = D.down := ⟨_, rfl⟩
  obtain ⟨lf, hlf⟩ : ∃ lf, lf = D.life := ⟨_, rfl⟩
  rw [← hdn] at hD
  rw [← hlf] at HL
  have HE := Sd.mk (show cellOff D life = if lf ≠ life then 14 else if dn then 7 else 0 by rw [cellOff, hdn, hlf])
  have HD := Sd.mk hD
  clear hdn hlf hD
  have hb : (lf != life) = true ∧ lf ≠ life ∨ (lf != life) = false ∧ lf = life := by
    by_cases h1 : lf = life
    · exact .inr ⟨by simp [h1], h1⟩
    · exact .inl ⟨by simp [h1], h1⟩
  go_enter Tryd.func41, Tryd.ntmps41
  go_wp2
  refine wp_region_x 11 (fun w' : World => w'.cell? ⟨c, 0, none⟩ = some (ptr d) ∧ w'.cell? ⟨c, 2, none⟩ = some (.int .i64 life)) rfl ?_
  have hS0 : w.drew.cell? ⟨c, 0, none⟩ = some (ptr d) ∧ w.drew.cell? ⟨c, 2, none⟩ = some (.int .i64 life) := ⟨hc0, hc2⟩
  refine wpX_take 0 (v := ?_) rfl (by kernel_rfl) (fun _ _ _ h => h) (Or.inl ⟨by rfl, ?_⟩) (by assumption) ?_
  rotate_left
  · intro wq hSq; (try dsimp only at hSq); go_simp; try (with_reducible rfl)
  refine wpX_take 1 (v := ?_) rfl (by kernel_rfl) (fun _ _ _ h => h) (Or.inl ⟨by rfl, ?_⟩) (by assumption) ?_
  rotate_left
  · intro wq hSq; (try dsimp only at hSq); go_simp; try (with_reducible rfl)
  try simp only [Act.put, List.setIfInBounds_toArray, List.set_cons_zero, List.set_cons_succ]
  refine wpX_take 2 (v := ?_) rfl (by kernel_rfl) (fun _ _ _ h => h) (Or.inl ⟨by rfl, ?_⟩) (by assumption) ?_
  rotate_left
  · intro wq hSq; (try dsimp only at hSq); go_simp; try (with_reducible rfl)
  try simp only [Act.put, List.setIfInBounds_toArray, List.set_cons_zero, List.set_cons_succ]
  refine wpX_take 3 (v := ?_) rfl (by kernel_rfl) (fun _ _ _ h => h) (Or.inl ⟨by rfl, ?_⟩) (by assumption) ?_
  rotate_left
  · intro wq hSq; (try dsimp only at hSq); go_simp; try (with_reducible rfl)
  try simp only [Act.put, List.setIfInBounds_toArray, List.set_cons_zero, List.set_cons_succ]
  refine wpX_take 5 (v := ?_) rfl (by kernel_rfl) (fun _ _ _ h => h) (Or.inl ⟨by rfl, ?_⟩) (by assumption) ?_
  rotate_left
  · intro wq hSq; (try dsimp only at hSq); go_simp; try (with_reducible rfl)
  try simp only [Act.put, List.setIfInBounds_toArray, List.set_cons_zero, List.set_cons_succ]
  refine wpX_take 6 (v := ?_) rfl (by kernel_rfl) (fun _ _ _ h => h) (Or.inl ⟨by rfl, ?_⟩) (by assumption) ?_
  rotate_left
  · intro wq hSq; (try dsimp only at hSq); go_simp; try (with_reducible rfl)
  try simp only [Act.put, List.setIfInBounds_toArray, List.set_cons_zero, List.set_cons_succ]
  refine wpX_take 7 (v := ?_) rfl (by kernel_rfl) (fun _ _ _ h => h) (Or.inl ⟨by rfl, ?_⟩) (by assumption) ?_
  rotate_left
  · intro wq hSq; (try dsimp only at hSq); go_simp; try (with_reducible rfl)
  try simp only [Act.put, List.setIfInBounds_toArray, List.set_cons_zero, List.set_cons_succ]
  refine wpX_take 8 (v := ?_) rfl (by kernel_rfl) (fun _ _ _ h => h) (Or.inl ⟨by rfl, ?_⟩) (by assumption) ?_
  rotate_left
  · intro wq hSq; (try dsimp only at hSq); go_simp; try (with_reducible rfl)
  try simp only [Act.put, List.setIfInBounds_toArray, List.set_cons_zero, List.set_cons_succ]
  refine wpX_one 4 (by kernel_rfl) rfl (fun K hK => ?_)
  go_simp
  refine HL.out.mono ?_
  rintro e w' ⟨rfl, rfl⟩
  refine hK _ _ (fun _ => by assumption) ?_
  try simp only [Act.put, List.setIfInBounds_toArray, List.set_cons_zero, List.set_cons_succ]
  clear hK K
  refine wpX_take 9 (v := ?_) rfl (by kernel_rfl) (fun _ _ _ h => h) (Or.inl ⟨by rfl, ?_⟩) (by assumption) ?_
  rotate_left
  · intro wq hSq; (try dsimp only at hSq); go_simp; try (with_reducible rfl)
  try simp only [Act.put, List.setIfInBounds_toArray, List.set_cons_zero, List.set_cons_succ]
  refine wpX_take 10 (v := ?_) rfl (by kernel_rfl) (fun _ _ _ h => h) (Or.inl ⟨by rfl, ?_⟩) (by assumption) ?_
  rotate_left
  · intro wq hSq; (try dsimp only at hSq); go_simp; try (with_reducible rfl)
  try simp only [Act.put, List.setIfInBounds_toArray, List.set_cons_zero, List.set_cons_succ]
  refine wpX_done (by kernel_rfl) ?_ _
  rcases hb with ⟨h1, h2⟩ | ⟨h1, h2⟩
  · go_wp2
    go_ret
    exact ⟨by rw [HE.out, if_pos h2]; rfl, (Upd.refl _ _).drew⟩
  · cases dn with
    | true =>
      go_wp2_with (go_at_call 38; refine HD.out.mono ?_; rintro e w' ⟨rfl, rfl⟩)
      go_ret
      exact ⟨by rw [HE.out, if_neg (by simp [h2]), if_pos trivial]; rfl, (Upd.refl _ _).drew⟩
    | false =>
      go_wp2_with (go_at_call 38; refine HD.out.mono ?_; rintro e w' ⟨rfl, rfl⟩)
      go_ret
      exact ⟨by rw [HE.out, if_neg (by simp [h2]), if_neg (by simp)]; rfl, (Upd.refl _ _).drew⟩
end
end Go.Proofs.YtpcndlipdfcnfaaDoor
