/- A record of one byte: write. -/
import Derived.Test.YtpcndlipdfcnfaaDoorLeaf
import Derived.Test.YtpcndlipdfcnfaaDoorOpen
namespace Go.Proofs.YtpcndlipdfcnfaaDoor
open Go Go.RowKit
section
variable {M : List Nat} {w : World} {d a m c lg : Nat} {D : DiskS} {life a0 n0 a1 n1 area epoch fin : Int} {recs : Value} {settled : Bool}
set_option maxRecDepth 100000 in
set_option maxHeartbeats 2000000 in
theorem jwrite_one (h : DiskAt M w d a m D) (hdn : D.down = false) (ht : D.trip = 0) (hl : LogAt w lg d c life a0 n0 a1 n1 area epoch fin recs settled) (hld : lg ≠ d) (hlm : lg ≠ m) (At N : Int) (h0 : 0 ≤ At) (h1 : At < (D.n : Int))
    {b off cp : Nat} {x : UInt8} (hv : Bs M w (.slice (some ⟨b, off, none⟩) 1 cp) [x]) :
    Calls Tryd.prog 33 #[ptr lg, .agg #[.int .i64 At, .int .i64 N], .int .i64 1, .int .i64 0, .slice (some ⟨b, off, none⟩) 1 cp] w fun e w' => e = .returned (.int .i64 0) ∧ (∃ D', DiskAt M w' d a m D' ∧ D'.n = D.n ∧ D'.down = false ∧ D'.trip = 0 ∧ D'.life = D.life) ∧ Upd [d, m] w w' := by
  have hn := h.ok.n2
  have hc := (bs_at hv).2.1
  have hc2 : cp ≤ 9223372036854775807 := (bs_at hv).2.2.1
  have HH := Sd.mk h
  have HV := Sd.mk hv
  have HD := Sd.mk hdn
  have HT := Sd.mk ht
  have hx0 : w.cell? ⟨lg, 0, none⟩ = some (ptr d) := cell_of hl rfl
  have hlg := lt_of_block hl
  have hstr : ∀ o : Obj, (convert 26 9 (.slice (some ⟨b, off, none⟩) 1 cp)).run Tryd.prog (w.alloc o) = .ok (.string ⟨#[x]⟩) (w.alloc o) := fun o => (hv.keep ((Upd.refl [] w).alloc o)).toStr
  have hmin : min (108 : Int) 1 = 1 := by decide
  clear h hv hdn ht hl
  go_enter Tryd.func33, Tryd.ntmps33
  go_wp2
  go_loopg [20] 1 (fun g k wr => (k = .int .i64 0 ∧ g = 1 ∧ wr = w.alloc (.cells #[.int .i64 At, .int .i64 N] 23)) ∨ (k = .int .i64 1 ∧ g = 0 ∧ Sd (∃ D', DiskAt M wr d a m D' ∧ D'.n = D.n ∧ D'.down = false ∧ D'.trip = 0 ∧ D'.life = D.life) ∧ Sd (Upd [d, m] w wr)))
  case atStart => exact .inl ⟨rfl, rfl, rfl⟩
  case round =>
    rcases hrel with ⟨rfl, hg, rfl⟩ | ⟨rfl, hg, hD, hu⟩
    · go_wp2
      have hlf : ((w.alloc (.cells #[.int .i64 At, .int .i64 N] 23)).alloc (.cells #[.int .i64 1, .int .i64 0, .int .i64 1, .string ⟨#[x]⟩] 97)).heap[w.heap.size + 1]? = some (.cells #[.int .i64 1, .int .i64 0, .int .i64 1, .string ⟨#[x]⟩] 97 (0, 0)) := heap_alloc2_new w _ _
      have hrn : ((w.alloc (.cells #[.int .i64 At, .int .i64 N] 23)).alloc (.cells #[.int .i64 1, .int .i64 0, .int .i64 1, .string ⟨#[x]⟩] 97)).heap[w.heap.size]? = some (.cells #[.int .i64 At, .int .i64 N] 23 (0, 0)) := (heap_alloc_lt _ (by simp)).trans (heap_alloc_new w _)
      have u1 : Upd [] w ((w.alloc (.cells #[.int .i64 At, .int .i64 N] 23)).alloc (.cells #[.int .i64 1, .int .i64 0, .int .i64 1, .string ⟨#[x]⟩] 97)) := ((Upd.refl [] w).alloc _).alloc _
      generalize hW : ((w.alloc (.cells #[.int .i64 At, .int .i64 N] 23)).alloc (.cells #[.int .i64 1, .int .i64 0, .int .i64 1, .string ⟨#[x]⟩] 97)) = y at hlf hrn u1 ⊢
      clear hW hstr
      have hz : w.heap.size + 1 < y.heap.size := lt_of_block hlf
      have hwA : IntKind.i64.wrap At = At := by rw [IntKind.wrap_i64]; omega
      have hS0 : y.drew.cell? ⟨lg, 0, none⟩ = some (ptr d) ∧ y.drew.cell? ⟨w.heap.size, 0, none⟩ = some (.int .i64 At) ∧ y.drew.cell? ⟨w.heap.size + 1, 0, none⟩ = some (.int .i64 1) ∧ y.drew.cell? ⟨w.heap.size + 1, 1, none⟩ = some (.int .i64 0) ∧ y.drew.cell? ⟨w.heap.size + 1, 2, none⟩ = some (.int .i64 1) ∧ y.drew.cell? ⟨w.heap.size + 1, 3, none⟩ = some (.string ⟨#[x]⟩) :=
        ⟨u1.cell hx0 (by simp), cell_of hrn rfl, cell_of hlf rfl, cell_of hlf rfl, cell_of hlf rfl, cell_of hlf rfl⟩
      have hlt := HH.out.lt
      refine wp_region_x 14 (fun w' : World => w'.cell? ⟨lg, 0, none⟩ = some (ptr d) ∧ w'.cell? ⟨w.heap.size, 0, none⟩ = some (.int .i64 At) ∧ w'.cell? ⟨w.heap.size + 1, 0, none⟩ = some (.int .i64 1) ∧ w'.cell? ⟨w.heap.size + 1, 1, none⟩ = some (.int .i64 0) ∧ w'.cell? ⟨w.heap.size + 1, 2, none⟩ = some (.int .i64 1) ∧ w'.cell? ⟨w.heap.size + 1, 3, none⟩ = some (.string ⟨#[x]⟩)) rfl ?_
      clear hlf hrn
      refine wpX_take 0 (v := ?_) rfl (by kernel_rfl) (fun _ _ _ h => h) (Or.inl ⟨by rfl, ?_⟩) (by assumption) ?_
      rotate_left
      · intro wq hSq; (try dsimp only at hSq); go_simp; try (with_reducible rfl)
      try simp only [Act.put, List.setIfInBounds_toArray, List.set_cons_zero, List.set_cons_succ]
      refine wpX_take 1 (v := ?_) rfl (by kernel_rfl) (fun _ _ _ h => h) (Or.inl ⟨by rfl, ?_⟩) (by assumption) ?_
      rotate_left
      · intro wq hSq; (try dsimp only at hSq); go_simp; try (with_reducible rfl)
      try simp only [Act.put, List.setIfInBounds_toArray, List.set_cons_zero, List.set_cons_succ]
      refine wpX_take 2 (v := ?_) rfl (by kernel_rfl) (fun _ _ _ h => h) (Or.inl ⟨by rfl, ?_⟩) (by assumption) ?_
      rotate_left
      · intro wq hSq; (try dsimp only at hSq); go_simp; try (with_reducible rfl)
      try simp only [Act.put, List.setIfInBounds_toArray, List.set_cons_zero, List.set_cons_succ]
      refine wpX_take 3 (v := ?_) rfl (by kernel_rfl) (fun _ _ _ h => h) (Or.inl ⟨by rfl, ?_⟩) (by assumption) ?_
      rotate_left
      · intro wq hSq; (try dsimp only at hSq); go_simp; try (with_reducible rfl)
      try simp only [Act.put, List.setIfInBounds_toArray, List.set_cons_zero, List.set_cons_succ]
      refine wpX_take 4 (v := ?_) rfl (by kernel_rfl) (fun _ _ _ h => h) (Or.inl ⟨by rfl, ?_⟩) (by assumption) ?_
      rotate_left
      · intro wq hSq; (try dsimp only at hSq); go_simp; try (with_reducible rfl)
      try simp only [Act.put, List.setIfInBounds_toArray, List.set_cons_zero, List.set_cons_succ]
      refine wpX_take 5 (v := ?_) rfl (by kernel_rfl) (fun _ _ _ h => h) (Or.inl ⟨by rfl, ?_⟩) (by assumption) ?_
      rotate_left
      · intro wq hSq; (try dsimp only at hSq); go_simp; try (with_reducible rfl)
      try simp only [Act.put, List.setIfInBounds_toArray, List.set_cons_zero, List.set_cons_succ]
      refine wpX_take 6 (v := ?_) rfl (by kernel_rfl) (fun _ _ _ h => h) (Or.inl ⟨by rfl, ?_⟩) (by assumption) ?_
      rotate_left
      · intro wq hSq; (try dsimp only at hSq); go_simp; try (with_reducible rfl)
      try simp only [Act.put, List.setIfInBounds_toArray, List.set_cons_zero, List.set_cons_succ]
      refine wpX_take 7 (v := ?_) rfl (by kernel_rfl) (fun _ _ _ h => h) (Or.inl ⟨by rfl, ?_⟩) (by assumption) ?_
      rotate_left
      · intro wq hSq; (try dsimp only at hSq); go_simp; try (with_reducible rfl)
      try simp only [Act.put, List.setIfInBounds_toArray, List.set_cons_zero, List.set_cons_succ]
      refine wpX_take 8 (v := ?_) rfl (by kernel_rfl) (fun _ _ _ h => h) (Or.inl ⟨by rfl, ?_⟩) (by assumption) ?_
      rotate_left
      · intro wq hSq; (try dsimp only at hSq); go_simp; try (with_reducible rfl)
      try simp only [Act.put, List.setIfInBounds_toArray, List.set_cons_zero, List.set_cons_succ]
      refine wpX_take 9 (v := ?_) rfl (by kernel_rfl) (fun _ _ _ h => h) (Or.inl ⟨by rfl, ?_⟩) (by assumption) ?_
      rotate_left
      · intro wq hSq; (try dsimp only at hSq); go_simp; try (with_reducible rfl)
      try simp only [Act.put, List.setIfInBounds_toArray, List.set_cons_zero, List.set_cons_succ]
      refine wpX_take 10 (v := ?_) rfl (by kernel_rfl) (fun _ _ _ h => h) (Or.inl ⟨by rfl, ?_⟩) (by assumption) ?_
      rotate_left
      · intro wq hSq; (try dsimp only at hSq); go_simp; try (with_reducible rfl)
      try simp only [Act.put, List.setIfInBounds_toArray, List.set_cons_zero, List.set_cons_succ]
      refine wpX_one 11 (by kernel_rfl) rfl (fun K hK => ?_)
      go_simp
      refine (leafLaid_is _ 1 0 1 ⟨#[x]⟩ (by decide) (by decide) (by decide) (show 1 ≤ 108 by decide) (show 1 ≤ 1 by decide)).mono ?_
      rintro e y2 ⟨A, c2, l, rfl, hll, hO, hU⟩
      have hS2 : y2.cell? ⟨lg, 0, none⟩ = some (ptr d) ∧ y2.cell? ⟨w.heap.size, 0, none⟩ = some (.int .i64 At) ∧ y2.cell? ⟨w.heap.size + 1, 0, none⟩ = some (.int .i64 1) ∧ y2.cell? ⟨w.heap.size + 1, 1, none⟩ = some (.int .i64 0) ∧ y2.cell? ⟨w.heap.size + 1, 2, none⟩ = some (.int .i64 1) ∧ y2.cell? ⟨w.heap.size + 1, 3, none⟩ = some (.string ⟨#[x]⟩) :=
        ⟨hU.cell hS0.1 (by simp), hU.cell hS0.2.1 (by simp), hU.cell hS0.2.2.1 (by simp), hU.cell hS0.2.2.2.1 (by simp), hU.cell hS0.2.2.2.2.1 (by simp), hU.cell hS0.2.2.2.2.2 (by simp)⟩
      refine hK _ _ (fun _ => by assumption) ?_
      try simp only [Act.put, List.setIfInBounds_toArray, List.set_cons_zero, List.set_cons_succ]
      clear hK K
      refine wpX_one 12 (by kernel_rfl) rfl (fun K hK => ?_)
      go_simp
      have u2 : Upd [] w y2 := u1.drew.trans hU
      have hB2 : Bs M y2 (.slice A 128 c2) l := hO.bs M (fun x hx => by have := HH.out.mlt x hx; have := u1.size; simp; omega)
      have hpw : D.powered At = 0 := by rw [DiskS.powered, if_neg (by rw [HD.out]; decide), if_neg (by omega)]
      refine (write_is (HH.out.keep u2) At (by omega) (by omega) hB2).mono ?_
      rintro e y3 ⟨rfl, hD3, hU3⟩
      rw [show D.writeE At l = 0 by rw [DiskS.writeE, if_neg (by simp [hpw]), if_neg (by omega), if_neg (by rw [HT.out]; decide)]]
      rw [show D.write At l = D.trip0.put At.toNat (pad l) by rw [DiskS.write, if_neg (by simp [hpw]), if_neg (by omega), if_neg (by rw [HT.out]; decide)]] at hD3
      have hS3 : y3.cell? ⟨lg, 0, none⟩ = some (ptr d) ∧ y3.cell? ⟨w.heap.size, 0, none⟩ = some (.int .i64 At) ∧ y3.cell? ⟨w.heap.size + 1, 0, none⟩ = some (.int .i64 1) ∧ y3.cell? ⟨w.heap.size + 1, 1, none⟩ = some (.int .i64 0) ∧ y3.cell? ⟨w.heap.size + 1, 2, none⟩ = some (.int .i64 1) ∧ y3.cell? ⟨w.heap.size + 1, 3, none⟩ = some (.string ⟨#[x]⟩) :=
        ⟨hU3.cell hS2.1 (by simp [hld, hlm]), hU3.cell hS2.2.1 (by simp; omega), hU3.cell hS2.2.2.1 (by simp; omega), hU3.cell hS2.2.2.2.1 (by simp; omega), hU3.cell hS2.2.2.2.2.1 (by simp; omega), hU3.cell hS2.2.2.2.2.2 (by simp; omega)⟩
      refine hK _ _ (fun _ => by assumption) ?_
      try simp only [Act.put, List.setIfInBounds_toArray, List.set_cons_zero, List.set_cons_succ]
      clear hK K
      refine wpX_take 13 (v := ?_) rfl (by kernel_rfl) (fun _ _ _ h => h) (Or.inl ⟨by rfl, ?_⟩) (by assumption) ?_
      rotate_left
      · intro wq hSq; (try dsimp only at hSq); go_simp; try (with_reducible rfl)
      try simp only [Act.put, List.setIfInBounds_toArray, List.set_cons_zero, List.set_cons_succ]
      refine wpX_done (by kernel_rfl) ?_ _
      have H3 : Sd (∃ D', DiskAt M y3 d a m D' ∧ D'.n = D.n ∧ D'.down = false ∧ D'.trip = 0 ∧ D'.life = D.life) := ⟨_, hD3, by simp [DiskS.n, DiskS.trip0, DiskS.put], by simp [DiskS.trip0, DiskS.put, HD.out], by simp [DiskS.trip0, DiskS.put, HT.out]; decide, by simp [DiskS.trip0, DiskS.put]⟩
      have HU3 : Sd (Upd [d, m] w y3) := ⟨u2.then hU3⟩
      clear hS3 hS2 hS0 hD3 hU3 hB2 u2 hU hO hll u1 hpw
      go_wp2
      go_roundg 0
      case measure => omega
      case rel => exact .inr ⟨rfl, rfl, H3, HU3⟩
    · go_wp2
      go_ret
      exact ⟨rfl, hD.out, hu.out⟩
end
end Go.Proofs.YtpcndlipdfcnfaaDoor
