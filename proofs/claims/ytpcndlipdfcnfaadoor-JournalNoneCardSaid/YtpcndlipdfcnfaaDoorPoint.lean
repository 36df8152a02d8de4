/- A journal on a blank disk: octet.Num of a small number, point, format. -/
import Derived.Test.YtpcndlipdfcnfaaDoorFresh
import Derived.Test.YtpcndlipdfcnfaaDoorSlotS
namespace Go.Proofs.YtpcndlipdfcnfaaDoor
open Go Go.RowKit
section
variable {M : List Nat} {w : World} {d a m c lg : Nat} {D : DiskS} {life epoch fin : Int} {recs : Value} {settled : Bool}
theorem DiskAt.grow {w' : World} (h : DiskAt M w d a m D) (u : Upd [] w w') {M' : List Nat} (h1 : ∀ x ∈ M, x ∈ M') (h2 : ∀ x ∈ M', x ∈ M ∨ w.heap.size ≤ x) (h5 : ∀ x ∈ M', x < w'.heap.size) : DiskAt M' w' d a m D := by
  obtain ⟨ok, mlt, dM, aM, mM, da, dm, am, ⟨cap, blk, hc⟩, ⟨vs, arr, hvs, hv⟩, ⟨Mp, mp, h3, h4⟩⟩ := h
  exact ⟨ok, h5, h1 _ dM, h1 _ aM, h1 _ mM, da, dm, am, ⟨cap, u.heap blk (by simp), hc⟩, ⟨vs, u.heap arr (by simp), hvs, fun i hi => let ⟨v, e, hb⟩ := hv i hi; ⟨v, e, (hb.more h2).keep u⟩⟩,
    ⟨Mp, mp.upd u (by simp), fun k v hk => let ⟨h0, b, e, hb⟩ := h3 k v hk; ⟨h0, b, e, (hb.more h2).keep u⟩, h4⟩⟩

set_option maxRecDepth 100000 in
set_option maxHeartbeats 400000 in
theorem num_small (w : World) (n : Nat) (hn : n < 128) : Calls Tryd.prog 55 #[.int .i64 n] w fun e w' => ∃ A c, e = .returned (.tuple #[.slice A 1 c, .int .i64 0]) ∧ OwB w.heap.size w' (.slice A 1 c) [UInt8.ofNat n] ∧ Upd [] w w' := by
  have hn0 : (0 : Int) ≤ (n : Int) := by omega
  have hn1 : (n : Int) ≤ 9007199254740991 := by omega
  have hn2 : (n : Int) < 128 := by omega
  have hw : Value.int .u8 (IntKind.u8.wrap (n : Int)) = u8v (UInt8.ofNat n) := by rw [← u8v_mod, IntKind.wrap_u8]
  go_enter Tryd.func55, Tryd.ntmps55
  go_wp2_with (first | (go_at_call 71; refine (number_yes _ _ hn0 hn1).mono ?_; rintro e w' ⟨rfl, rfl⟩) | fail)
  go_loopg [0, 4] 0 (fun g x y wr => x = .int .i64 n ∧ y = .slice none 0 0 ∧ wr = w)
  case atStart => exact ⟨rfl, rfl, rfl⟩
  case round =>
    obtain ⟨rfl, rfl, rfl⟩ := hrel
    have hwn : IntKind.u8.wrap (n : Int) = n := by rw [IntKind.wrap_u8]; omega
    have hb0 : Bs [] (wr.alloc (.cells #[.int .u8 n] 5)) (.slice (some ⟨wr.heap.size, 0, none⟩) 1 1) [UInt8.ofNat n] := by
      have e : Value.int .u8 (n : Int) = u8v (UInt8.ofNat n) := by rw [← u8v_mod]; congr 1; omega
      rw [e]
      exact Rd.one (heap_alloc_new wr _) (by decide) (by decide)
    have HB0 := Sd.mk hb0
    clear hb0 hw
    go_wp2_with (at_builtin; refine wpList_appB rfl _ _ rfl wr.heap.size _ [] rfl (Ow.nil _ _ _) [] _ [UInt8.ofNat n] rfl HB0.out (by simp) (by simp) ?_)
    intro v1 w1 hO hU hN
    obtain ⟨A, c, rfl⟩ := hO.isSlice
    have HO := Sd.mk hO
    have HU := Sd.mk hU
    clear hO hU hN
    go_wp2
    go_ret2
    exact ⟨A, c, rfl, HO.out, ((Upd.refl [] wr).alloc _).trans (HU.out.mono (by simp [Value.ownBlock]))⟩

set_option maxRecDepth 100000 in
set_option maxHeartbeats 2000000 in
theorem point_blank (h : DiskAt M w d a m D) (hb : D.Blank) (ht : D.trip = 0) (hn2 : 2 ≤ D.n) (hc : CellAt w c d 0 D.life) (hcM : c ∉ M) {a0 n0 a1 n1 : Int} (hl : LogAt w lg d c life a0 n0 a1 n1 0 0 fin recs settled) (hlM : lg ∈ M) (hld : lg ≠ d) (hla : lg ≠ a) (hlm : lg ≠ m) :
    Calls Tryd.prog 37 #[ptr lg, .int .i64 0, .int .i64 1] w fun e w' => e = .returned (.int .i64 0) ∧ (∃ D', DiskAt M w' d a m D' ∧ D'.n = D.n ∧ D'.down = false ∧ D'.trip = 0 ∧ D'.life = D.life) ∧ LogAt w' lg d c life a0 n0 a1 n1 0 1 fin recs settled ∧ Upd [d, a, m, lg] w w' := by
  have HN := Sd.mk (num_small w 1 (by decide))
  have HH := Sd.mk h
  have HB := Sd.mk hb
  have HT := Sd.mk ht
  have HC := Sd.mk hc
  have HL := Sd.mk hl
  have hx : w.cell? ⟨lg, 2, none⟩ = some (ptr c) := cell_of hl rfl
  have hlg := lt_of_block hl
  clear h hb hc hl ht
  go_enter Tryd.func37, Tryd.ntmps37
  go_wp2_with fail
  refine HN.out.mono ?_
  rintro e w1 ⟨A1, c1, rfl, hO1, hU1⟩
  have hx1 := hU1.cell hx (by simp)
  have HO1 := Sd.mk hO1
  have HU1 := Sd.mk hU1
  have hw0 : IntKind.u8.wrap 0 = 0 := by rw [IntKind.wrap_u8]; rfl
  clear hO1 hU1 hx
  go_wp2
  refine wp_region_x 11 (fun w' : World => w'.cell? ⟨lg, 2, none⟩ = some (ptr c)) rfl ?_
  have hS0 : w1.drew.cell? ⟨lg, 2, none⟩ = some (ptr c) := hx1
  refine wpX_take 0 (v := ?_) rfl (by kernel_rfl) (fun _ _ _ h => h) (Or.inl ⟨by rfl, ?_⟩) (by assumption) ?_
  rotate_left
  · intro wq hSq; (try dsimp only at hSq); go_simp; try (with_reducible rfl)
  try simp only [Act.put, List.setIfInBounds_toArray, List.set_cons_zero, List.set_cons_succ]
  refine wpX_take 1 (v := ?_) rfl (by kernel_rfl) (fun _ _ _ h => h) (Or.inl ⟨by rfl, ?_⟩) (by assumption) ?_
  rotate_left
  · intro wq hSq; (try dsimp only at hSq); go_simp; try (with_reducible rfl)
  try simp only [Act.put, List.setIfInBounds_toArray, List.set_cons_zero, List.set_cons_succ]
  refine wpX_take 2 (v := ?_) rfl (by kernel_rfl) (fun _ _ _ h => h) (Or.inl ⟨by rfl, ?_⟩) (by assumption) ?_
  rotate_left
  · intro wq hSq; (try dsimp only at hSq); go_simp; try (with_reducible rfl)
  try simp only [Act.put, List.setIfInBounds_toArray, List.set_cons_zero, List.set_cons_succ]
  refine wpX_take 3 (v := ?_) rfl (by kernel_rfl) (fun _ _ _ h => h) (Or.inl ⟨by rfl, ?_⟩) (by assumption) ?_
  rotate_left
  · intro wq hSq; (try dsimp only at hSq); go_simp; try (with_reducible rfl)
  try simp only [Act.put, List.setIfInBounds_toArray, List.set_cons_zero, List.set_cons_succ]
  refine wpX_take 4 (v := ?_) rfl (by kernel_rfl) (fun _ _ _ h => h) (Or.inl ⟨by rfl, ?_⟩) (by assumption) ?_
  rotate_left
  · intro wq hSq; (try dsimp only at hSq); go_simp; try (with_reducible rfl)
  try simp only [Act.put, List.setIfInBounds_toArray, List.set_cons_zero, List.set_cons_succ]
  refine wpX_take 5 (v := ?_) rfl (by kernel_rfl) (fun _ _ _ h => h) (Or.inl ⟨by rfl, ?_⟩) (by assumption) ?_
  rotate_left
  · intro wq hSq; (try dsimp only at hSq); go_simp; try (with_reducible rfl)
  try simp only [Act.put, List.setIfInBounds_toArray, List.set_cons_zero, List.set_cons_succ]
  refine wpX_take 7 (v := ?_) rfl (by kernel_rfl) (fun _ _ _ h => h) (Or.inl ⟨by rfl, ?_⟩) (by assumption) ?_
  rotate_left
  · intro wq hSq; (try dsimp only at hSq); go_simp; try (with_reducible rfl)
  try simp only [Act.put, List.setIfInBounds_toArray, List.set_cons_zero, List.set_cons_succ]
  refine wpX_one 6 (by kernel_rfl) rfl (fun K hK => ?_)
  go_simp
  obtain ⟨w2, hw2⟩ : ∃ w2, w2 = (w1.alloc (.cells #[u8v 0] 5)).drew := ⟨_, rfl⟩
  have hu2 : Upd [] w1 w2 := by rw [hw2]; exact ((Upd.refl [] w1).alloc _).drew
  have hbl : w2.heap[w1.heap.size]? = some (.cells #[u8v 0] 5 (0, 0)) := by rw [hw2]; exact heap_alloc_new w1 _
  have hS2 : w2.cell? ⟨lg, 2, none⟩ = some (ptr c) := hu2.cell hx1 (by simp)
  change K _ (w1.alloc (.cells #[u8v 0] 5)).drew
  rw [← hw2]
  refine hK _ _ (fun _ => by assumption) ?_
  try simp only [Act.put, List.setIfInBounds_toArray, List.set_cons_zero, List.set_cons_succ]
  clear hK K
  refine wpX_one 8 (by kernel_rfl) rfl (fun K hK => ?_)
  refine step_appFull rfl (.tmp 21) (.tmp 22) rfl rfl (M := []) (l := [0]) (Rd.one hbl (by decide) (by decide)) rfl (M2 := []) (l2 := [UInt8.ofNat 1]) (OwB.bs (show OwB w.heap.size w2 _ [UInt8.ofNat 1] from Ow.keep HO1.out hu2) [] (by simp)) (by simp) (by simp) ?_
  intro A3 c3 w3 hO3 hU3
  have hS3 : w3.cell? ⟨lg, 2, none⟩ = some (ptr c) := hU3.cell hS2 (by simp)
  refine hK _ _ (fun _ => by assumption) ?_
  try simp only [Act.put, List.setIfInBounds_toArray, List.set_cons_zero, List.set_cons_succ]
  clear hK K
  refine wpX_one 9 (by kernel_rfl) rfl (fun K hK => ?_)
  go_simp
  have hu3 := (HU1.out.trans hu2).trans hU3
  have hB3 : Bs M w3 (.slice A3 2 c3) ([0] ++ [UInt8.ofNat 1]) := hO3.bs M (fun x hx => by have := HH.out.mlt x hx; have := (HU1.out.trans hu2).size; omega)
  refine (set_blank (HH.out.keep hu3) (HC.out.upd hu3 (by simp)) hcM HB.out HT.out (by omega) (by omega) hB3 (by simp)).mono ?_
  rintro e w4 ⟨rfl, hD4, hU4⟩
  have hnot : lg ∉ [d, a, m] := by simp [hld, hla, hlm]
  have hS4 : w4.cell? ⟨lg, 2, none⟩ = some (ptr c) := hU4.cell hS3 hnot
  refine hK _ _ (fun _ => by assumption) ?_
  try simp only [Act.put, List.setIfInBounds_toArray, List.set_cons_zero, List.set_cons_succ]
  clear hK K
  refine wpX_take 10 (v := ?_) rfl (by kernel_rfl) (fun _ _ _ h => h) (Or.inl ⟨by rfl, ?_⟩) (by assumption) ?_
  rotate_left
  · intro wq hSq; (try dsimp only at hSq); go_simp; try (with_reducible rfl)
  try simp only [Act.put, List.setIfInBounds_toArray, List.set_cons_zero, List.set_cons_succ]
  refine wpX_done (by kernel_rfl) ?_ _
  have HL4 : Sd (LogAt w4 lg d c life a0 n0 a1 n1 0 0 fin recs settled) := ⟨(HL.out.upd hu3 (by simp)).upd hU4 hnot⟩
  have HD4 := Sd.mk hD4
  have HU4 := Sd.mk (hu3.then hU4)
  have hz4 : lg < w4.heap.size := lt_of_block HL4.out
  have hq7 : w4.cell? ⟨lg, 7, none⟩ = some (.int .i64 0) := cell_of HL4.out rfl
  have hq8 : w4.cell? ⟨lg, 8, none⟩ = some (.int .i64 0) := cell_of HL4.out rfl
  have hfz := free_of HL4.out
  clear hD4 hU4 hU3 hO3 hu3 hB3 hS4 hS3 hS2 hS0 hbl hu2 hw2 hx1
  go_wp2
  go_ret
  have u : Upd [lg] w4 ((w4.setCell ⟨lg, 7, none⟩ (.int .i64 0)).setCell ⟨lg, 8, none⟩ (.int .i64 1)) := ((Upd.refl _ _).setCell _ (by simp)).setCell _ (by simp)
  obtain ⟨D', hD', e1, e2, e3, e4⟩ := HD4.out
  refine ⟨rfl, ⟨D', hD'.upd u (by simp [hlM, hld, hla, hlm]), e1, e2, e3, e4⟩, ?_, HU4.out.trans' u (fun x hx => .inl (by simp at hx ⊢; omega)) (by simp)⟩
  unfold LogAt
  rw [heap_setCell_same _ (heap_setCell_same _ HL4.out)]
  rfl

set_option maxRecDepth 100000 in
set_option maxHeartbeats 1000000 in
theorem format_blank (h : DiskAt M w d a m D) (hb : D.Blank) (ht : D.trip = 0) (N : Nat) (hN : D.n = 2 + 2 * N) (hc : CellAt w c d 0 D.life) (hcM : c ∉ M) (hl : LogAt w lg d c life 2 N (2 + N) N 0 0 fin recs false) (hlM : lg ∈ M) (hld : lg ≠ d) (hla : lg ≠ a) (hlm : lg ≠ m) :
    Calls Tryd.prog 24 #[ptr lg] w fun e w' => e = .returned (.tuple #[ptr lg, .int .i64 0]) ∧ (∃ D', DiskAt M w' d a m D' ∧ D'.n = D.n ∧ D'.down = false ∧ D'.trip = 0 ∧ D'.life = D.life) ∧ LogAt w' lg d c life 2 N (2 + N) N 0 1 fin recs true ∧ Upd [d, a, m, lg] w w' := by
  have HF := Sd.mk (fresh_blank h hb N hN hl)
  have HP := Sd.mk (fun w' (u : Upd [] w w') => point_blank (h.keep u) hb ht (by omega) (hc.upd u (by simp)) hcM (hl.upd u (by simp)) hlM hld hla hlm)
  clear h hb ht hc hl hcM
  go_enter Tryd.func24, Tryd.ntmps24
  go_wp2_with fail
  refine HF.out.mono ?_
  rintro e w1 ⟨rfl, hU1⟩
  have H1 := Sd.mk hU1
  clear hU1
  go_wp2_with fail
  refine (HP.out _ H1.out).mono ?_
  rintro e w2 ⟨rfl, hD, hL, hU⟩
  have HD := Sd.mk hD
  have HL := Sd.mk hL
  have H2 := Sd.mk (H1.out.then hU)
  have hz := lt_of_block hL
  have hq : w2.cell? ⟨lg, 11, none⟩ = some (.bool false) := cell_of hL rfl
  have hfz := free_of hL
  clear hD hL hU H1
  go_wp2
  go_ret2
  have u : Upd [lg] w2 (w2.setCell ⟨lg, 11, none⟩ (.bool true)) := (Upd.refl _ _).setCell _ (by simp)
  obtain ⟨D', hD', e1, e2, e3, e4⟩ := HD.out
  refine ⟨rfl, ⟨D', hD'.upd u (by simp [hlM, hld, hla, hlm]), e1, e2, e3, e4⟩, ?_, H2.out.trans' u (fun x hx => .inl hx) (by simp)⟩
  unfold LogAt
  rw [heap_setCell_same _ HL.out]
  rfl
end
end Go.Proofs.YtpcndlipdfcnfaaDoor
