/- A record of one byte: Append, Records. -/
import Derived.Test.YtpcndlipdfcnfaaDoorWrite
import Derived.Test.YtpcndlipdfcnfaaDoorDiskC
namespace Go.Proofs.YtpcndlipdfcnfaaDoor
open Go Go.RowKit
section
variable {M : List Nat} {w : World} {d a m c lg : Nat} {D : DiskS}
set_option maxRecDepth 100000 in
set_option maxHeartbeats 400000 in
theorem wrong_one (w : World) (b off cp : Nat) : Calls Tryd.prog 32 #[.slice (some ⟨b, off, none⟩) 1 cp] w fun e w' => e = .returned (.int .i64 0) ∧ w = w' := by
  go_enter Tryd.func32, Tryd.ntmps32
  go_wp2
  go_ret
  exact ⟨rfl, rfl⟩
set_option maxRecDepth 100000 in
set_option maxHeartbeats 400000 in
theorem takes_one (w : World) : Calls Tryd.prog 30 #[.int .i64 1] w fun e w' => e = .returned (.int .i64 1) ∧ w = w' := by
  go_enter Tryd.func30, Tryd.ntmps30
  go_wp2
  go_ret
  exact ⟨rfl, rfl⟩

set_option maxRecDepth 100000 in
set_option maxHeartbeats 400000 in
theorem clones_nil (w : World) : Calls Tryd.prog 34 #[.slice none 0 0] w fun e w' => e = .returned (.slice none 0 0) ∧ w = w' := by
  have hnil := fun w' => eql_nil (P := Tryd.prog) w' 35 _ none 0 0 undBss
  go_enter Tryd.func34, Tryd.ntmps34
  go_wp2
  go_ret
  exact ⟨rfl, rfl⟩

set_option maxRecDepth 100000 in
set_option maxHeartbeats 2000000 in
theorem append_one (h : DiskAt M w d a m D) (hdn : D.down = false) (ht : D.trip = 0) (N : Nat) (hN : 1 ≤ N) (hN2 : N ≤ 4096) (h3 : 2 < D.n) (hl : LogAt w lg d c D.life 2 N (2 + N) N 0 1 0 (.slice none 0 0) true) (hld : lg ≠ d) (hlm : lg ≠ m) (hlM : lg ∈ M)
    {b off cp : Nat} {x : UInt8} (hv : Bs M w (.slice (some ⟨b, off, none⟩) 1 cp) [x]) :
    Calls Tryd.prog 9 #[ptr lg, .slice (some ⟨b, off, none⟩) 1 cp] w fun e w' => e = .returned (.int .i64 0) ∧ ∃ v r, LogAt w' lg d c D.life 2 N (2 + N) N 0 1 1 r true ∧ Ow 26 w.heap.size w' r [v] ∧ Bs [] w' v [x] ∧ Upd [d, m, lg] w w' := by
  have ho := logOff_is h hl
  rw [cellOff, if_neg (by simp), if_neg (by simp [hdn])] at ho
  have HO := Sd.mk ho
  have HL := Sd.mk hl
  have HV := Sd.mk hv
  have HLe := Sd.mk (fun w' (u : Upd [] w w') => left_is (hl.upd u (by simp)) (by omega) (by omega) (by omega) (by omega))
  have HW := Sd.mk (fun w' (u : Upd [] w w') => jwrite_one (h.keep u) hdn ht (hl.upd u (by simp)) hld hlm 2 N (by omega) (by omega) (hv.keep u))
  have HS := Sd.mk (show d ∈ M ∧ m ∈ M from ⟨h.dM, h.mM⟩)
  have hN1 : (1 : Int) ≤ N := by omega
  have hlgz := lt_of_block hl
  clear h hdn ht hl hv ho
  go_enter Tryd.func9, Tryd.ntmps9
  go_wp2_with fail
  refine HO.out.mono ?_
  rintro e w1 ⟨rfl, hU⟩
  have H1 := Sd.mk hU
  have hx : w1.cell? ⟨lg, 11, none⟩ = some (.bool true) := cell_of (HL.out.upd hU (by simp)) rfl
  clear hU
  go_wp2_with fail
  refine (wrong_one _ _ _ _).mono ?_
  rintro e w' ⟨rfl, rfl⟩
  go_wp2_with fail
  refine (takes_one _).mono ?_
  rintro e w' ⟨rfl, rfl⟩
  go_wp2_with fail
  refine (HLe.out _ H1.out).mono ?_
  rintro e w2 ⟨rfl, hU2⟩
  have hlt : ¬ ((N : Int) < 1) := by omega
  go_wp2
  have hL2 := (HL.out.upd H1.out (by simp)).upd hU2 (by simp)
  have H2 := Sd.mk (H1.out.trans hU2)
  have hS0 : w2.drew.cell? ⟨lg, 3, none⟩ = some (.int .i64 2) ∧ w2.drew.cell? ⟨lg, 4, none⟩ = some (.int .i64 N) ∧ w2.drew.cell? ⟨lg, 7, none⟩ = some (.int .i64 0) ∧ w2.drew.cell? ⟨lg, 8, none⟩ = some (.int .i64 1) ∧ w2.drew.cell? ⟨lg, 9, none⟩ = some (.int .i64 0) :=
    ⟨cell_of hL2 rfl, cell_of hL2 rfl, cell_of hL2 rfl, cell_of hL2 rfl, cell_of hL2 rfl⟩
  clear hU2 hx
  refine wp_region_x 21 (fun w' : World => w'.cell? ⟨lg, 3, none⟩ = some (.int .i64 2) ∧ w'.cell? ⟨lg, 4, none⟩ = some (.int .i64 N) ∧ w'.cell? ⟨lg, 7, none⟩ = some (.int .i64 0) ∧ w'.cell? ⟨lg, 8, none⟩ = some (.int .i64 1) ∧ w'.cell? ⟨lg, 9, none⟩ = some (.int .i64 0)) rfl ?_
  refine wpX_take 0 (v := ?_) rfl (by kernel_rfl) (fun _ _ _ h => h) (Or.inl ⟨by rfl, ?_⟩) (by assumption) ?_
  rotate_left
  · intro wq hSq; (try dsimp only at hSq); go_simp; try (with_reducible rfl)
  try simp only [Act.put, List.setIfInBounds_toArray, List.set_cons_zero, List.set_cons_succ]
  refine wpX_take 1 (v := ?_) rfl (by kernel_rfl) (fun _ _ _ h => h) (Or.inl ⟨by rfl, ?_⟩) (by assumption) ?_
  rotate_left
  · intro wq hSq; (try dsimp only at hSq); go_simp; try (with_reducible rfl)
  try simp only [Act.put, List.setIfInBounds_toArray, List.set_cons_zero, List.set_cons_succ]
  refine wpX_take 2 (v := ?_) rfl (by kernel_rfl) (fun _ _ _ h => h) (Or.inl ⟨by rfl, ?_⟩) (by assumption) ?_
  rotate_left
  · intro wq hSq; (try dsimp only at hSq); go_simp; try (with_reducible rfl)
  try simp only [Act.put, List.setIfInBounds_toArray, List.set_cons_zero, List.set_cons_succ]
  refine wpX_take 3 (v := ?_) rfl (by kernel_rfl) (fun _ _ _ h => h) (Or.inl ⟨by rfl, ?_⟩) (by assumption) ?_
  rotate_left
  · intro wq hSq; (try dsimp only at hSq); go_simp; try (with_reducible rfl)
  try simp only [Act.put, List.setIfInBounds_toArray, List.set_cons_zero, List.set_cons_succ]
  refine wpX_take 4 (v := ?_) rfl (by kernel_rfl) (fun _ _ _ h => h) (Or.inl ⟨by rfl, ?_⟩) (by assumption) ?_
  rotate_left
  · intro wq hSq; (try dsimp only at hSq); go_simp; try (with_reducible rfl)
  try simp only [Act.put, List.setIfInBounds_toArray, List.set_cons_zero, List.set_cons_succ]
  refine wpX_take 5 (v := ?_) rfl (by kernel_rfl) (fun _ _ _ h => h) (Or.inl ⟨by rfl, ?_⟩) (by assumption) ?_
  rotate_left
  · intro wq hSq; (try dsimp only at hSq); go_simp; try (with_reducible rfl)
  try simp only [Act.put, List.setIfInBounds_toArray, List.set_cons_zero, List.set_cons_succ]
  refine wpX_take 6 (v := ?_) rfl (by kernel_rfl) (fun _ _ _ h => h) (Or.inl ⟨by rfl, ?_⟩) (by assumption) ?_
  rotate_left
  · intro wq hSq; (try dsimp only at hSq); go_simp; try (with_reducible rfl)
  try simp only [Act.put, List.setIfInBounds_toArray, List.set_cons_zero, List.set_cons_succ]
  refine wpX_take 7 (v := ?_) rfl (by kernel_rfl) (fun _ _ _ h => h) (Or.inl ⟨by rfl, ?_⟩) (by assumption) ?_
  rotate_left
  · intro wq hSq; (try dsimp only at hSq); go_simp; try (with_reducible rfl)
  try simp only [Act.put, List.setIfInBounds_toArray, List.set_cons_zero, List.set_cons_succ]
  refine wpX_take 8 (v := ?_) rfl (by kernel_rfl) (fun _ _ _ h => h) (Or.inl ⟨by rfl, ?_⟩) (by assumption) ?_
  rotate_left
  · intro wq hSq; (try dsimp only at hSq); go_simp; try (with_reducible rfl)
  try simp only [Act.put, List.setIfInBounds_toArray, List.set_cons_zero, List.set_cons_succ]
  refine wpX_take 9 (v := ?_) rfl (by kernel_rfl) (fun _ _ _ h => h) (Or.inl ⟨by rfl, ?_⟩) (by assumption) ?_
  rotate_left
  · intro wq hSq; (try dsimp only at hSq); go_simp; try (with_reducible rfl)
  try simp only [Act.put, List.setIfInBounds_toArray, List.set_cons_zero, List.set_cons_succ]
  refine wpX_take 10 (v := ?_) rfl (by kernel_rfl) (fun _ _ _ h => h) (Or.inl ⟨by rfl, ?_⟩) (by assumption) ?_
  rotate_left
  · intro wq hSq; (try dsimp only at hSq); go_simp; try (with_reducible rfl)
  try simp only [Act.put, List.setIfInBounds_toArray, List.set_cons_zero, List.set_cons_succ]
  refine wpX_take 11 (v := ?_) rfl (by kernel_rfl) (fun _ _ _ h => h) (Or.inl ⟨by rfl, ?_⟩) (by assumption) ?_
  rotate_left
  · intro wq hSq; (try dsimp only at hSq); go_simp; try (with_reducible rfl)
  try simp only [Act.put, List.setIfInBounds_toArray, List.set_cons_zero, List.set_cons_succ]
  refine wpX_take 12 (v := ?_) rfl (by kernel_rfl) (fun _ _ _ h => h) (Or.inl ⟨by rfl, ?_⟩) (by assumption) ?_
  rotate_left
  · intro wq hSq; (try dsimp only at hSq); go_simp; try (with_reducible rfl)
  try simp only [Act.put, List.setIfInBounds_toArray, List.set_cons_zero, List.set_cons_succ]
  refine wpX_take 13 (v := ?_) rfl (by kernel_rfl) (fun _ _ _ h => h) (Or.inl ⟨by rfl, ?_⟩) (by assumption) ?_
  rotate_left
  · intro wq hSq; (try dsimp only at hSq); go_simp; try (with_reducible rfl)
  try simp only [Act.put, List.setIfInBounds_toArray, List.set_cons_zero, List.set_cons_succ]
  refine wpX_take 14 (v := ?_) rfl (by kernel_rfl) (fun _ _ _ h => h) (Or.inl ⟨by rfl, ?_⟩) (by assumption) ?_
  rotate_left
  · intro wq hSq; (try dsimp only at hSq); go_simp; try (with_reducible rfl)
  try simp only [Act.put, List.setIfInBounds_toArray, List.set_cons_zero, List.set_cons_succ]
  refine wpX_take 15 (v := ?_) rfl (by kernel_rfl) (fun _ _ _ h => h) (Or.inl ⟨by rfl, ?_⟩) (by assumption) ?_
  rotate_left
  · intro wq hSq; (try dsimp only at hSq); go_simp; try (with_reducible rfl)
  try simp only [Act.put, List.setIfInBounds_toArray, List.set_cons_zero, List.set_cons_succ]
  refine wpX_take 16 (v := ?_) rfl (by kernel_rfl) (fun _ _ _ h => h) (Or.inl ⟨by rfl, ?_⟩) (by assumption) ?_
  rotate_left
  · intro wq hSq; (try dsimp only at hSq); go_simp; try (with_reducible rfl)
  try simp only [Act.put, List.setIfInBounds_toArray, List.set_cons_zero, List.set_cons_succ]
  refine wpX_take 17 (v := ?_) rfl (by kernel_rfl) (fun _ _ _ h => h) (Or.inl ⟨by rfl, ?_⟩) (by assumption) ?_
  rotate_left
  · intro wq hSq; (try dsimp only at hSq); go_simp; try (with_reducible rfl)
  try simp only [Act.put, List.setIfInBounds_toArray, List.set_cons_zero, List.set_cons_succ]
  refine wpX_take 18 (v := ?_) rfl (by kernel_rfl) (fun _ _ _ h => h) (Or.inl ⟨by rfl, ?_⟩) (by assumption) ?_
  rotate_left
  · intro wq hSq; (try dsimp only at hSq); go_simp; try (with_reducible rfl)
  try simp only [Act.put, List.setIfInBounds_toArray, List.set_cons_zero, List.set_cons_succ]
  refine wpX_one 19 (by kernel_rfl) rfl (fun K hK => ?_)
  go_simp
  refine (HW.out _ H2.out.drew).mono ?_
  rintro e w3 ⟨rfl, -, hU3⟩
  have hL3 := (show LogAt w2.drew lg d c D.life 2 N (2 + N) N 0 1 0 (.slice none 0 0) true from hL2).upd hU3 (by simp [hld, hlm])
  have hS3 : w3.cell? ⟨lg, 3, none⟩ = some (.int .i64 2) ∧ w3.cell? ⟨lg, 4, none⟩ = some (.int .i64 N) ∧ w3.cell? ⟨lg, 7, none⟩ = some (.int .i64 0) ∧ w3.cell? ⟨lg, 8, none⟩ = some (.int .i64 1) ∧ w3.cell? ⟨lg, 9, none⟩ = some (.int .i64 0) :=
    ⟨cell_of hL3 rfl, cell_of hL3 rfl, cell_of hL3 rfl, cell_of hL3 rfl, cell_of hL3 rfl⟩
  refine hK _ _ (fun _ => by assumption) ?_
  try simp only [Act.put, List.setIfInBounds_toArray, List.set_cons_zero, List.set_cons_succ]
  clear hK K
  refine wpX_take 20 (v := ?_) rfl (by kernel_rfl) (fun _ _ _ h => h) (Or.inl ⟨by rfl, ?_⟩) (by assumption) ?_
  rotate_left
  · intro wq hSq; (try dsimp only at hSq); go_simp; try (with_reducible rfl)
  try simp only [Act.put, List.setIfInBounds_toArray, List.set_cons_zero, List.set_cons_succ]
  refine wpX_done (by kernel_rfl) ?_ _
  have H3 := Sd.mk (H2.out.drew.then hU3)
  have HL3 := Sd.mk hL3
  have hz3 : lg < w3.heap.size := lt_of_block hL3
  have hq9 : w3.cell? ⟨lg, 9, none⟩ = some (.int .i64 0) := cell_of hL3 rfl
  have hq10 : w3.cell? ⟨lg, 10, none⟩ = some (.slice none 0 0) := cell_of hL3 rfl
  have hfz := free_of hL3
  have HV3 : Sd (Bs M (w3.setCell ⟨lg, 9, none⟩ (.int .i64 1)) (.slice (some ⟨b, off, none⟩) 1 cp) [x]) := ⟨(HV.out.upd H3.out (by simp [HS.out.1, HS.out.2])).upd ((Upd.refl [lg] _).setCell _ (by simp)) (by simp [hlM])⟩
  have HL4 : Sd (LogAt (w3.setCell ⟨lg, 9, none⟩ (.int .i64 1)) lg d c D.life 2 N (2 + N) N 0 1 1 (.slice none 0 0) true) := ⟨by unfold LogAt; rw [heap_setCell_same _ HL3.out]; rfl⟩
  clear hS3 hS0 hL3 hL2 hU3
  go_wp2_with fail
  refine (clones_nil _).mono ?_
  rintro e w' ⟨rfl, rfl⟩
  go_wp2_with fail
  refine (clone_any HV3.out (by simp)).mono ?_
  rintro e w4 ⟨v4, rfl, hO4, hU4, -⟩
  rw [World.size_setCell] at hO4
  have hL4 := HL4.out.upd hU4 (by simp)
  have HB4 := Sd.mk (hO4.bs [lg] (by simpa using hz3))
  obtain ⟨A4, c4, rfl⟩ := hO4.isSlice
  have hz4 : lg < w4.heap.size := lt_of_block hL4
  have hzz : w3.heap.size ≤ w4.heap.size := by have := hU4.size; simpa using this
  have hw3 : w.heap.size ≤ w3.heap.size := H3.out.size
  have HUa : Sd (Upd [d, m, lg] w w4) := ⟨((H3.out.mono (U := [d, m, lg]) (fun x hx => by simp at hx ⊢; omega)).setCell _ (by simp)).and hU4⟩
  have HL5 := Sd.mk hL4
  have HR := Sd.mk (rd_block (xs := [.slice A4 [x].length c4]) (heap_alloc_new w4 (.cells #[.slice A4 [x].length c4] 26)) (by rw [maxLen_is]; show 1 ≤ _; decide))
  clear hO4 hU4 hL4 HL3 HL4 HV3 H3 H2 H1 hq9 hq10 hfz
  go_wp2_with (at_builtin; refine wpList_app rfl _ _ _ rfl 26 (.slice none 0 0) 24 undBss infoBs rfl w4.heap.size _ [] rfl (Ow.nil _ _ _) [] _ [.slice A4 [x].length c4] rfl HR.out (by simp [Value.oneCell']) (by decide) (by simp) (by simp) ?_)
  intro r w5 hO5 hU5 hN5
  have hL5 := (HL5.out.upd ((Upd.refl [] _).alloc _) (by simp)).upd (hU5.mono (U := []) (by simp [Value.ownBlock])) (by simp)
  have HB5 := Sd.mk ((HB4.out.keep ((Upd.refl [] _).alloc _)).keep (hU5.mono (U := []) (by simp [Value.ownBlock])))
  have HL6 := Sd.mk hL5
  have HUb : Sd (Upd [d, m, lg] w w5) := ⟨(HUa.out.alloc _).and (hU5.mono (U := []) (by simp [Value.ownBlock]))⟩
  have HO5 := Sd.mk hO5
  have hz5 : lg < w5.heap.size := lt_of_block hL5
  have hq : w5.cell? ⟨lg, 10, none⟩ = some (.slice none 0 0) := cell_of hL5 rfl
  have hfz := free_of hL5
  have hlg2 : ∀ g, r.ownBlock = some g → g ≠ lg := fun g hg e => by have := hO5.block g (by simp [hg]); omega
  have HN := Sd.mk hlg2
  obtain ⟨gg, cc, rfl⟩ : ∃ g c, r = .slice (some ⟨g, 0, none⟩) 1 c := by
    rcases hO5.shape with ⟨_, h0⟩ | ⟨g, c, h0, _⟩
    · simp at h0
    · exact ⟨g, c, h0⟩
  clear hO5 hU5 hN5 hL5 HL5 HB4 HR hlg2
  go_wp2
  go_ret
  have u : Upd [lg] w5 (w5.setCell ⟨lg, 10, none⟩ (.slice (some ⟨gg, 0, none⟩) 1 cc)) := (Upd.refl _ _).setCell _ (by simp)
  refine ⟨rfl, .slice A4 [x].length c4, .slice (some ⟨gg, 0, none⟩) 1 cc, ?_, (Ow.lower HO5.out (by omega)).upd u (fun g hg => by simpa using HN.out g hg), ?_⟩
  · unfold LogAt
    rw [heap_setCell_same _ HL6.out]
    rfl
  · exact ⟨(HB5.out.upd u (by simp)).more (by simp), HUb.out.trans' u (fun x hx => .inl hx) (by simp)⟩

set_option maxRecDepth 100000 in
set_option maxHeartbeats 1000000 in
theorem records_one {life a0 n0 a1 n1 area epoch fin : Int} {settled : Bool} {g cc B : Nat} {v : Value} {x : UInt8} (hl : LogAt w lg d c life a0 n0 a1 n1 area epoch fin (.slice (some ⟨g, 0, none⟩) 1 cc) settled) (hO : Ow 26 B w (.slice (some ⟨g, 0, none⟩) 1 cc) [v]) (hb : Bs [] w v [x]) :
    Calls Tryd.prog 14 #[ptr lg] w fun e w' => ∃ g c v, e = .returned (.slice (some ⟨g, 0, none⟩) 1 c) ∧ 1 ≤ c ∧ w'.cell? ⟨g, 0, none⟩ = some v ∧ Bs [] w' v [x] ∧ Upd [] w w' := by
  have hx : w.cell? ⟨lg, 10, none⟩ = some (.slice (some ⟨g, 0, none⟩) 1 cc) := cell_of hl rfl
  obtain ⟨A, c, rfl⟩ := hb.isSlice
  have hg0 : w.cell? ⟨g, 0, none⟩ = some (.slice A [x].length c) ∧ 1 ≤ cc := by
    rcases hO.rd [] (by simp) with ⟨h, _⟩ | ⟨b, off, c', h, h1, _, _, _, h5⟩
    · cases h
    · simp only [Value.slice.injEq, Option.some.injEq, Addr.mk.injEq] at h
      obtain ⟨⟨rfl, rfl, _⟩, _, rfl⟩ := h
      exact ⟨h5 0 _ rfl, h1⟩
  obtain ⟨hg1, hcc⟩ := hg0
  have HB := Sd.mk hb
  clear hl hO hb
  go_enter Tryd.func14, Tryd.ntmps14
  go_wp2
  go_loopg [3, 13] 1 (fun gk r k wr => (k = .int .i64 0 ∧ gk = 1 ∧ r = .slice none 0 0 ∧ w = wr) ∨ (k = .int .i64 1 ∧ gk = 0 ∧ ∃ g2 c2 v2, r = .slice (some ⟨g2, 0, none⟩) 1 c2 ∧ Sd (1 ≤ c2 ∧ wr.cell? ⟨g2, 0, none⟩ = some v2 ∧ Bs [] wr v2 [x] ∧ Upd [] w wr)))
  case atStart => exact .inl ⟨rfl, rfl, rfl, rfl⟩
  case round =>
    rcases hrel with ⟨rfl, hgk, rfl, hww⟩ | ⟨rfl, hgk, g2, c2, v2, rfl, hF⟩
    · subst hww
      go_wp2_with fail
      refine (clone_any HB.out (by simp)).mono ?_
      rintro e w4 ⟨v4, rfl, hO4, hU4, -⟩
      have HB4 := Sd.mk (hO4.bs [] (by simp))
      have HU4 := Sd.mk hU4
      obtain ⟨A4, c4, rfl⟩ := hO4.isSlice
      have HR := Sd.mk (rd_block (xs := [.slice A4 [x].length c4]) (heap_alloc_new w4 (.cells #[.slice A4 [x].length c4] 26)) (by rw [maxLen_is]; show 1 ≤ _; decide))
      clear hO4 hU4
      go_wp2_with (at_builtin; refine wpList_app rfl _ _ _ rfl 26 (.slice none 0 0) 24 undBss infoBs rfl w4.heap.size _ [] rfl (Ow.nil _ _ _) [] _ [.slice A4 [x].length c4] rfl HR.out (by simp [Value.oneCell']) (by decide) (by simp) (by simp) ?_)
      intro r w5 hO5 hU5 hN5
      have hU5' := hU5.mono (U := []) (by simp [Value.ownBlock])
      obtain ⟨gg, c5, rfl⟩ : ∃ g c, r = .slice (some ⟨g, 0, none⟩) 1 c := by
        rcases hO5.shape with ⟨_, h0⟩ | ⟨g, c, h0, _⟩
        · simp at h0
        · exact ⟨g, c, h0⟩
      have hq : w5.cell? ⟨gg, 0, none⟩ = some (.slice A4 [x].length c4) ∧ 1 ≤ c5 := by
        rcases hO5.rd [] (by simp) with ⟨h, _⟩ | ⟨b, off, c', h, h1, _, _, _, h5⟩
        · cases h
        · simp only [Value.slice.injEq, Option.some.injEq, Addr.mk.injEq] at h
          obtain ⟨⟨rfl, rfl, _⟩, _, rfl⟩ := h
          exact ⟨h5 0 _ rfl, h1⟩
      have HF : Sd (1 ≤ c5 ∧ w5.cell? ⟨gg, 0, none⟩ = some (.slice A4 [x].length c4) ∧ Bs [] w5 (.slice A4 [x].length c4) [x] ∧ Upd [] w w5) := ⟨hq.2, hq.1, (HB4.out.keep ((Upd.refl [] _).alloc _)).keep hU5', (HU4.out.alloc _).trans hU5'⟩
      clear hO5 hU5 hN5 hU5' hq
      go_wp2
      go_roundg 0
      case measure => omega
      case rel => exact .inr ⟨rfl, rfl, gg, c5, _, rfl, HF⟩
    · go_wp2
      go_ret
      exact ⟨g2, c2, v2, rfl, hF.out.1, hF.out.2.1, hF.out.2.2.1, hF.out.2.2.2⟩
end
end Go.Proofs.YtpcndlipdfcnfaaDoor
