/- A cell on a blank disk: Set. -/
import Derived.Test.YtpcndlipdfcnfaaDoorSlotR
import Derived.Test.YtpcndlipdfcnfaaDoorSlotW
namespace Go.Proofs.YtpcndlipdfcnfaaDoor
open Go Go.RowKit

section
variable {M : List Nat} {w : World} {d a m c : Nat} {D : DiskS} {base life : Int}
set_option maxRecDepth 100000 in
set_option maxHeartbeats 2000000 in
theorem set_blank (h : DiskAt M w d a m D) (hc : CellAt w c d base D.life) (hcM : c ∉ M) (hb : D.Blank) (ht : D.trip = 0) (h0 : 0 ≤ base) (h1 : base < (D.n : Int) - 1) {v : Value} {p : List UInt8} (hp : Bs M w v p) (hpl : p.length ≤ 100) :
    Calls Tryd.prog 56 #[ptr c, v] w fun e w' => e = .returned (.int .i64 0) ∧ (∃ D', DiskAt M w' d a m D' ∧ D'.n = D.n ∧ D'.down = false ∧ D'.trip = 0 ∧ D'.life = D.life) ∧ Upd [d, a, m] w w' := by
  have hn := h.ok.n2
  have ho := cellOff_is h hc
  rw [cellOff, if_neg (by simp), if_neg (by simp [hb.down])] at ho
  have HO := Sd.mk ho
  have HBo := Sd.mk (fun w' (u : Upd [] w w') => both_blank (h.keep u) (hc.upd u (by simp)) hb h0 h1)
  have HC := Sd.mk hc
  have HH := Sd.mk h
  have HP := Sd.mk hp
  have HB := Sd.mk hb
  have HT := Sd.mk ht
  have hcd : c ≠ d ∧ c ≠ a ∧ c ≠ m := ⟨fun e => hcM (e ▸ h.dM), fun e => hcM (e ▸ h.aM), fun e => hcM (e ▸ h.mM)⟩
  obtain ⟨A, cp, rfl⟩ := hp.isSlice
  clear h hc hb ho ht hp hcM
  go_enter Tryd.func56, Tryd.ntmps56
  go_wp2_with fail
  refine HO.out.mono ?_
  rintro e w1 ⟨rfl, hU⟩
  have H1 := Sd.mk hU
  clear hU
  go_wp2_with fail
  refine (HBo.out _ H1.out).mono ?_
  rintro e w2 ⟨rfl, hU⟩
  have H2 := Sd.mk (H1.out.trans hU)
  clear hU H1
  go_wp2_with fail
  refine (counts_none _).mono ?_
  rintro e w3 ⟨rfl, hU⟩
  have H3 := Sd.mk ((H2.out.alloc _).trans hU)
  clear hU H2
  have hx := (HC.out.upd H3.out (by simp)).cells
  have hx0 := hx.1
  have hx1 := hx.2.1
  have hstr : (convert 26 9 (.slice A p.length cp)).run Tryd.prog w3.drew = .ok (.string ⟨p.toArray⟩) w3.drew := (HP.out.keep H3.out.drew).toStr
  have hw1 : IntKind.i64.wrap 1 = 1 := by rw [IntKind.wrap_i64]; rfl
  have hwb : IntKind.i64.wrap base = base := by rw [IntKind.wrap_i64]; omega
  clear hx
  go_wp2
  refine wp_region_x 18 (fun w' : World => w'.cell? ⟨c, 0, none⟩ = some (ptr d) ∧ w'.cell? ⟨c, 1, none⟩ = some (.int .i64 base) ∧ (convert 26 9 (.slice A p.length cp)).run Tryd.prog w' = .ok (.string ⟨p.toArray⟩) w') rfl ?_
  have hS0 : w3.drew.cell? ⟨c, 0, none⟩ = some (ptr d) ∧ w3.drew.cell? ⟨c, 1, none⟩ = some (.int .i64 base) ∧ (convert 26 9 (.slice A p.length cp)).run Tryd.prog w3.drew = .ok (.string ⟨p.toArray⟩) w3.drew := ⟨hx0, hx1, hstr⟩
  refine wpX_take 0 (v := ?_) rfl (by kernel_rfl) (fun _ _ _ h => h) (Or.inl ⟨by rfl, ?_⟩) (by assumption) ?_
  rotate_left
  · intro wq hSq; (try dsimp only at hSq); go_simp; try (with_reducible rfl)
  try simp only [Act.put, List.setIfInBounds_toArray, List.set_cons_zero, List.set_cons_succ]
  refine wpX_take 1 (v := ?_) rfl (by kernel_rfl) (fun _ _ _ h => h) (Or.inl ⟨by rfl, ?_⟩) (by assumption) ?_
  rotate_left
  · intro wq hSq; (try dsimp only at hSq); go_simp; try (with_reducible rfl)
  try simp only [Act.put, List.setIfInBounds_toArray, List.set_cons_zero, List.set_cons_succ]
  refine wpX_take 2 (v := ?_) rfl (by kernel_rfl) (fun _ _ _ h => h) (Or.inl ⟨by rfl, ?_⟩) (by assumption) ?_
  rotate_left
  · intro wq hSq; (try dsimp only at hSq); go_simp; try (with_reducible rfl)
  try simp only [Act.put, List.setIfInBounds_toArray, List.set_cons_zero, List.set_cons_succ]
  refine wpX_take 3 (v := ?_) rfl (by kernel_rfl) (fun _ _ _ h => h) (Or.inl ⟨by rfl, ?_⟩) (by assumption) ?_
  rotate_left
  · intro wq hSq; (try dsimp only at hSq); go_simp; try (with_reducible rfl)
  try simp only [Act.put, List.setIfInBounds_toArray, List.set_cons_zero, List.set_cons_succ]
  refine wpX_take 4 (v := ?_) rfl (by kernel_rfl) (fun _ _ _ h => h) (Or.inl ⟨by rfl, ?_⟩) (by assumption) ?_
  rotate_left
  · intro wq hSq; (try dsimp only at hSq); go_simp; try (with_reducible rfl)
  try simp only [Act.put, List.setIfInBounds_toArray, List.set_cons_zero, List.set_cons_succ]
  refine wpX_take 5 (v := ?_) rfl (by kernel_rfl) (fun _ _ _ h => h) (Or.inl ⟨by rfl, ?_⟩) (by assumption) ?_
  rotate_left
  · intro wq hSq; (try dsimp only at hSq); go_simp; try (with_reducible rfl)
  try simp only [Act.put, List.setIfInBounds_toArray, List.set_cons_zero, List.set_cons_succ]
  refine wpX_take 6 (v := ?_) rfl (by kernel_rfl) (fun _ _ _ h => h) (Or.inl ⟨by rfl, ?_⟩) (by assumption) ?_
  rotate_left
  · intro wq hSq; (try dsimp only at hSq); go_simp; try (with_reducible rfl)
  try simp only [Act.put, List.setIfInBounds_toArray, List.set_cons_zero, List.set_cons_succ]
  refine wpX_take 7 (v := ?_) rfl (by kernel_rfl) (fun _ _ _ h => h) (Or.inl ⟨by rfl, ?_⟩) (by assumption) ?_
  rotate_left
  · intro wq hSq; (try dsimp only at hSq); go_simp; try (with_reducible rfl)
  try simp only [Act.put, List.setIfInBounds_toArray, List.set_cons_zero, List.set_cons_succ]
  refine wpX_take 8 (v := ?_) rfl (by kernel_rfl) (fun _ _ _ h => h) (Or.inl ⟨by rfl, ?_⟩) (by assumption) ?_
  rotate_left
  · intro wq hSq; (try dsimp only at hSq); go_simp; try (with_reducible rfl)
  try simp only [Act.put, List.setIfInBounds_toArray, List.set_cons_zero, List.set_cons_succ]
  refine wpX_take 9 (v := ?_) rfl (by kernel_rfl) (fun _ _ _ h => h) (Or.inl ⟨by rfl, ?_⟩) (by assumption) ?_
  rotate_left
  · intro wq hSq; (try dsimp only at hSq); go_simp; try (with_reducible rfl)
  try simp only [Act.put, List.setIfInBounds_toArray, List.set_cons_zero, List.set_cons_succ]
  refine wpX_take 10 (v := ?_) rfl (by kernel_rfl) (fun _ _ _ h => h) (Or.inl ⟨by rfl, ?_⟩) (by assumption) ?_
  rotate_left
  · intro wq hSq; (try dsimp only at hSq); go_simp; try (with_reducible rfl)
  try simp only [Act.put, List.setIfInBounds_toArray, List.set_cons_zero, List.set_cons_succ]
  refine wpX_take 11 (v := ?_) rfl (by kernel_rfl) (fun _ _ _ h => h) (Or.inl ⟨by rfl, ?_⟩) (by assumption) ?_
  rotate_left
  · intro wq hSq; (try dsimp only at hSq); go_simp; try (with_reducible rfl)
  try simp only [Act.put, List.setIfInBounds_toArray, List.set_cons_zero, List.set_cons_succ]
  refine wpX_take 12 (v := ?_) rfl (by kernel_rfl) (fun _ _ _ h => h) (Or.inl ⟨by rfl, ?_⟩) (by assumption) ?_
  rotate_left
  · intro wq hSq; (try dsimp only at hSq); go_simp; try (with_reducible rfl)
  try simp only [Act.put, List.setIfInBounds_toArray, List.set_cons_zero, List.set_cons_succ]
  refine wpX_take 13 (v := ?_) rfl (by kernel_rfl) (fun _ _ _ h => h) (Or.inl ⟨by rfl, ?_⟩) (by assumption) ?_
  rotate_left
  · intro wq hSq; (try dsimp only at hSq); go_simp; try (with_reducible rfl)
  try simp only [Act.put, List.setIfInBounds_toArray, List.set_cons_zero, List.set_cons_succ]
  refine wpX_take 14 (v := ?_) rfl (by kernel_rfl) (fun _ _ _ h => h) (Or.inl ⟨by rfl, ?_⟩) (by assumption) ?_
  rotate_left
  · intro wq hSq; (try dsimp only at hSq); go_simp; try (with_reducible rfl)
  try simp only [Act.put, List.setIfInBounds_toArray, List.set_cons_zero, List.set_cons_succ]
  refine wpX_one 15 (by kernel_rfl) rfl (fun K hK => ?_)
  go_simp
  refine (slotLaid_is _ 1 ⟨p.toArray⟩ (by decide) hpl).mono ?_
  rintro e w4 ⟨A4, c4, rfl, hO4, hU4⟩
  have hS4 : w4.cell? ⟨c, 0, none⟩ = some (ptr d) ∧ w4.cell? ⟨c, 1, none⟩ = some (.int .i64 base) ∧ (convert 26 9 (.slice A p.length cp)).run Tryd.prog w4 = .ok (.string ⟨p.toArray⟩) w4 := ⟨hU4.cell hx0 (by simp), hU4.cell hx1 (by simp), (HP.out.keep (H3.out.drew.trans hU4)).toStr⟩
  refine hK _ _ (fun _ => by assumption) ?_
  try simp only [Act.put, List.setIfInBounds_toArray, List.set_cons_zero, List.set_cons_succ]
  clear hK K
  refine wpX_one 16 (by kernel_rfl) rfl (fun K hK => ?_)
  go_simp
  have HD4 := HH.out.keep (H3.out.drew.trans hU4)
  have HB4 : Bs M w4 (.slice A4 128 c4) (slotLaid 1 ⟨p.toArray⟩) := hO4.bs M (fun x hx => by have := HH.out.mlt x hx; have := H3.out.size; simp; omega)
  refine (write_is HD4 base (by omega) (by omega) HB4).mono ?_
  rintro e w5 ⟨rfl, hD5, hU5⟩
  have hlen := slotLaid_len 1 ⟨p.toArray⟩ hpl
  have hpw := (HB.out.read base h0 (by omega)).2
  rw [show D.writeE base (slotLaid 1 ⟨p.toArray⟩) = 0 by rw [DiskS.writeE, if_neg (by simp [hpw]), if_neg (by omega), if_neg (by rw [HT.out]; decide)]]
  rw [show D.write base (slotLaid 1 ⟨p.toArray⟩) = D.trip0.put base.toNat (pad (slotLaid 1 ⟨p.toArray⟩)) by rw [DiskS.write, if_neg (by simp [hpw]), if_neg (by omega), if_neg (by rw [HT.out]; decide)]] at hD5
  have hU45 : Upd [d, m] w w5 := (H3.out.drew.trans hU4).then hU5
  have hS5 : w5.cell? ⟨c, 0, none⟩ = some (ptr d) ∧ w5.cell? ⟨c, 1, none⟩ = some (.int .i64 base) ∧ (convert 26 9 (.slice A p.length cp)).run Tryd.prog w5 = .ok (.string ⟨p.toArray⟩) w5 := ⟨hU5.cell hS4.1 (by simp [hcd]), hU5.cell hS4.2.1 (by simp [hcd]), (HP.out.upd hU45 (by simp [HH.out.dM, HH.out.mM])).toStr⟩
  refine hK _ _ (fun _ => by assumption) ?_
  try simp only [Act.put, List.setIfInBounds_toArray, List.set_cons_zero, List.set_cons_succ]
  clear hK K
  refine wpX_take 17 (v := ?_) rfl (by kernel_rfl) (fun _ _ _ h => h) (Or.inl ⟨by rfl, ?_⟩) (by assumption) ?_
  rotate_left
  · intro wq hSq; (try dsimp only at hSq); go_simp; try (with_reducible rfl)
  try simp only [Act.put, List.setIfInBounds_toArray, List.set_cons_zero, List.set_cons_succ]
  refine wpX_done (by kernel_rfl) ?_ _
  have hx5 := hS5.1
  have H5 := Sd.mk hU45
  have HF := Sd.mk (flush_is hD5)
  clear hS0 hS4 hS5 hD5 hU5 hU4 hO4 HD4 HB4 hU45 hx0 hx1 hstr
  go_wp2_with fail
  refine HF.out.mono ?_
  rintro e w6 ⟨rfl, hD6, hU6⟩
  have H6 := Sd.mk hD6
  have H7 := Sd.mk (H5.out.trans' hU6 (by simp) (fun x hx => .inl hx))
  have HQ := Sd.mk HB.out.down
  clear hD6 hU6 hlen hpw
  go_wp2
  go_ret
  have ht0 : (D.trip0.put base.toNat (pad (slotLaid 1 ⟨p.toArray⟩))).trip = 0 := by simp [DiskS.put, DiskS.trip0, HT.out]; decide
  have hd0 : (D.trip0.put base.toNat (pad (slotLaid 1 ⟨p.toArray⟩))).down = false := by simp [DiskS.put, DiskS.trip0, HQ.out]
  have hfe : (D.trip0.put base.toNat (pad (slotLaid 1 ⟨p.toArray⟩))).flushE = 0 := by rw [DiskS.flushE, if_neg (by rw [hd0]; decide), if_neg (by rw [ht0]; decide)]
  have hff : (D.trip0.put base.toNat (pad (slotLaid 1 ⟨p.toArray⟩))).flush = (D.trip0.put base.toNat (pad (slotLaid 1 ⟨p.toArray⟩))).trip0.flushed := by rw [DiskS.flush, if_neg (by rw [hd0]; decide), if_neg (by rw [ht0]; decide)]
  refine ⟨by rw [hfe]; rfl, ⟨_, H6.out, ?_⟩, H7.out⟩
  rw [hff]
  refine ⟨?_, ?_, ?_, ?_⟩
  · simp [DiskS.flushed, DiskS.n, DiskS.trip0, DiskS.put]
  · simpa [DiskS.flushed, DiskS.trip0] using hd0
  · simp [DiskS.flushed, DiskS.trip0, DiskS.put, HT.out]; decide
  · simp [DiskS.flushed, DiskS.trip0, DiskS.put]
end
end Go.Proofs.YtpcndlipdfcnfaaDoor
