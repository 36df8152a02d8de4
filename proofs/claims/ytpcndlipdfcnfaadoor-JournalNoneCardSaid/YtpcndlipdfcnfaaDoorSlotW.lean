/- A cell's sector: laid. -/
import Derived.Test.YtpcndlipdfcnfaaDoorApp
import Derived.Test.YtpcndlipdfcnfaaDoorRegion
namespace Go.Proofs.YtpcndlipdfcnfaaDoor
open Go Go.RowKit

def slotBody (mark : Nat) (s : ByteArray) : List UInt8 := (beB 8 mark ++ [UInt8.ofNat s.size] ++ s.data.toList) ++ List.replicate (107 - s.size) 0
def slotLaid (mark : Nat) (s : ByteArray) : List UInt8 := slotBody mark s ++ beB 4 (crc (slotBody mark s)).toNat ++ beB 8 mark
theorem slotBody_len (mark : Nat) (s : ByteArray) (h : s.size ≤ 100) : (slotBody mark s).length = 116 := by
  simp only [slotBody, List.length_append, beB_length, List.length_replicate, List.length_singleton, Array.length_toList]
  rw [show s.data.size = s.size from rfl]
  omega
theorem slotLaid_len (mark : Nat) (s : ByteArray) (h : s.size ≤ 100) : (slotLaid mark s).length = 128 := by
  simp only [slotLaid, List.length_append, slotBody_len mark s h, beB_length]

set_option maxRecDepth 100000 in
set_option maxHeartbeats 1000000 in
theorem slotLaid_is (w : World) (mark : Nat) (s : ByteArray) (hm : mark ≤ 9007199254740991) (hs : s.size ≤ 100) :
    Calls Tryd.prog 72 #[.agg #[.int .i64 mark, .string s]] w fun e w' => ∃ A c, e = .returned (.slice A 128 c) ∧ OwB w.heap.size w' (.slice A 128 c) (slotLaid mark s) ∧ Upd [] w w' := by
  have HF := Sd.mk (fun o => fixed_ok (w.alloc o) mark 8 (by decide) (by decide) hm (by omega))
  go_enter Tryd.func72, Tryd.ntmps72
  go_wp2_with fail
  refine (HF.out _).mono ?_
  rintro e w1 ⟨rfl, hO, hU⟩
  have hbx := hU.heap (heap_alloc_new w _) (by simp)
  have hx0 : w1.cell? ⟨w.heap.size, 0, none⟩ = some (.int .i64 mark) := cell_of (k := 0) hbx rfl
  have hx1 : w1.cell? ⟨w.heap.size, 1, none⟩ = some (.string s) := cell_of (k := 1) hbx rfl
  rw [World.size_alloc] at hO
  have HU := Sd.mk (((Upd.refl [] w).alloc _).trans hU)
  have HO := Sd.mk hO
  have hz1 : w.heap.size + 1 < w1.heap.size := (HO.out.lt' _ rfl)
  clear hO hU hbx
  go_wp2
  refine wp_region_x 12 (fun w' : World => w'.cell? ⟨w.heap.size, 1, none⟩ = some (.string s)) rfl ?_
  have hS0 : w1.drew.cell? ⟨w.heap.size, 1, none⟩ = some (.string s) := hx1
  refine wpX_take 0 (v := ?_) rfl (by kernel_rfl) (fun _ _ _ h => h) (Or.inl ⟨by rfl, ?_⟩) (by assumption) ?_
  rotate_left
  · intro wq hSq; (try dsimp only at hSq); go_simp; try (with_reducible rfl)
  try simp only [Act.put, List.setIfInBounds_toArray, List.set_cons_zero, List.set_cons_succ]
  refine wpX_take 1 (v := ?_) rfl (by kernel_rfl) (fun _ _ _ h => h) (Or.inl ⟨by rfl, ?_⟩) (by assumption) ?_
  rotate_left
  · intro wq hSq; (try dsimp only at hSq); go_simp; try (with_reducible rfl)
  try simp only [Act.put, List.setIfInBounds_toArray, List.set_cons_zero, List.set_cons_succ]
  refine wpX_take 2 (v := ?_) rfl (by kernel_rfl) (fun _ _ _ h => h) (Or.inl ⟨by rfl, ?_⟩) (by assumption) ?_
  rotate_left
  · intro wq hSq; (try dsimp only at hSq); go_simp; try (with_reducible rfl)
  try simp only [Act.put, List.setIfInBounds_toArray, List.set_cons_zero, List.set_cons_succ]
  refine wpX_take 3 (v := ?_) rfl (by kernel_rfl) (fun _ _ _ h => h) (Or.inl ⟨by rfl, ?_⟩) (by assumption) ?_
  rotate_left
  · intro wq hSq; (try dsimp only at hSq); go_simp; try (with_reducible rfl)
  try simp only [Act.put, List.setIfInBounds_toArray, List.set_cons_zero, List.set_cons_succ]
  refine wpX_take 4 (v := ?_) rfl (by kernel_rfl) (fun _ _ _ h => h) (Or.inl ⟨by rfl, ?_⟩) (by assumption) ?_
  rotate_left
  · intro wq hSq; (try dsimp only at hSq); go_simp; try (with_reducible rfl)
  try simp only [Act.put, List.setIfInBounds_toArray, List.set_cons_zero, List.set_cons_succ]
  refine wpX_take 5 (v := ?_) rfl (by kernel_rfl) (fun _ _ _ h => h) (Or.inl ⟨by rfl, ?_⟩) (by assumption) ?_
  rotate_left
  · intro wq hSq; (try dsimp only at hSq); go_simp; try (with_reducible rfl)
  try simp only [Act.put, List.setIfInBounds_toArray, List.set_cons_zero, List.set_cons_succ]
  refine wpX_take 8 (v := ?_) rfl (by kernel_rfl) (fun _ _ _ h => h) (Or.inl ⟨by rfl, ?_⟩) (by assumption) ?_
  rotate_left
  · intro wq hSq; (try dsimp only at hSq); go_simp; try (with_reducible rfl)
  try simp only [Act.put, List.setIfInBounds_toArray, List.set_cons_zero, List.set_cons_succ]
  refine wpX_take 9 (v := ?_) rfl (by kernel_rfl) (fun _ _ _ h => h) (Or.inl ⟨by rfl, ?_⟩) (by assumption) ?_
  rotate_left
  · intro wq hSq; (try dsimp only at hSq); go_simp; try (with_reducible rfl)
  try simp only [Act.put, List.setIfInBounds_toArray, List.set_cons_zero, List.set_cons_succ]
  refine wpX_one 6 (by kernel_rfl) rfl (fun K hK => ?_)
  go_simp
  have hwr : Value.int .u8 (IntKind.u8.wrap (s.size : Int)) = u8v (UInt8.ofNat s.size) := by rw [← u8v_mod, IntKind.wrap_u8]
  rw [hwr]
  obtain ⟨w2, hw2⟩ : ∃ w2, w2 = (w1.alloc (.cells #[u8v (UInt8.ofNat s.size)] 5)).drew := ⟨_, rfl⟩
  have hu2 : Upd [] w1 w2 := by rw [hw2]; exact ((Upd.refl [] w1).alloc _).drew
  have hbl : w2.heap[w1.heap.size]? = some (.cells #[u8v (UInt8.ofNat s.size)] 5 (0, 0)) := by rw [hw2]; exact heap_alloc_new w1 _
  have hsz2 : w1.heap.size < w2.heap.size := by rw [hw2]; simp
  rw [← hw2]
  refine hK _ _ (fun _ => hu2.cell hx1 (by simp)) ?_
  try simp only [Act.put]
  clear hK K hw2
  refine wpX_one 7 (by kernel_rfl) rfl (fun K hK => ?_)
  refine step_appFull rfl (.tmp 15) (.tmp 20) rfl rfl (M := []) (OwB.bs (show OwB (w.heap.size + 1) w2 _ (beB 8 mark) from Ow.keep HO.out hu2) [] (by simp)) rfl (M2 := []) (l2 := [UInt8.ofNat s.size]) (Rd.one hbl (by decide) (by decide)) (by simp) (by simp) ?_
  intro A3 c3 w3 hO3 hU3
  rw [List.length_singleton] at hO3 ⊢
  refine hK _ _ (fun _ => hU3.cell (hu2.cell hx1 (by simp)) (by simp)) ?_
  try simp only [Act.put]
  clear hK K
  refine wpX_one 10 (by kernel_rfl) rfl (fun K hK => ?_)
  refine step_appS rfl (.tmp 21) (.tmp 23) rfl w2.heap.size _ _ rfl hO3 s rfl (by simp; omega) hU3.size ?_
  intro A4 c4 w4 hO4 hU4
  have hnot : w.heap.size ∉ (Value.slice A3 (8 + 1) c3).ownBlock.toList := fun h => by have := Ow.block hO3 _ h; omega
  have hnot' : w.heap.size + 1 ∉ (Value.slice A3 (8 + 1) c3).ownBlock.toList := fun h => by have := Ow.block hO3 _ h; omega
  have hS4 := hU4.cell (hU3.cell (hu2.cell hx1 (by simp)) (by simp)) hnot
  refine hK _ _ (fun _ => hS4) ?_
  try simp only [Act.put]
  clear hK K
  refine wpX_take 11 (v := ?_) rfl (by kernel_rfl) (fun _ _ _ h => h) (Or.inl ⟨by rfl, ?_⟩) (by assumption) ?_
  rotate_left
  · intro wq hSq; (try dsimp only at hSq); go_simp; try (with_reducible rfl)
  try simp only [Act.put, List.setIfInBounds_toArray, List.set_cons_zero, List.set_cons_succ]
  refine wpX_done (by kernel_rfl) ?_ _
  have hl9 : (beB 8 mark ++ [UInt8.ofNat s.size]).length = 9 := by simp
  rw [hl9] at hO4 ⊢
  have hl4 : (beB 8 mark ++ [UInt8.ofNat s.size] ++ s.data.toList).length = 9 + s.size := by rw [List.length_append, hl9]; rfl
  obtain ⟨l4, hl4e⟩ : ∃ l4, l4 = beB 8 mark ++ [UInt8.ofNat s.size] ++ s.data.toList := ⟨_, rfl⟩
  rw [← hl4e] at hO4 hl4
  have HE := Sd.mk (show slotBody mark s = l4 ++ List.replicate (107 - s.size) 0 by rw [hl4e]; rfl)
  have HM4 : Sd (OwB (w.heap.size + 1) w4 (.slice (some ⟨w.heap.size + 1, 0, none⟩) 8 8) (beB 8 mark)) := ⟨Ow.upd (Ow.keep (Ow.keep HO.out hu2) hU3) hU4 (fun g hg => by cases hg; exact hnot')⟩
  have HU4 : Sd (Upd [] w w4) := ⟨((HU.out.trans hu2).trans hU3).trans' hU4 (by simp) (fun x hx => .inr (by have := Ow.block hO3 x hx; have := HU.out.size; have := hu2.size; omega))⟩
  have HO4 := Sd.mk hO4
  have hz4 : w2.heap.size ≤ w4.heap.size := Nat.le_trans hU3.size hU4.size
  have hz2 : w.heap.size + 1 < w2.heap.size := Nat.lt_of_lt_of_le hz1 hu2.size
  clear hO4 hU4 hO3 hU3 hu2 hbl hx0 hx1 hnot hnot' hsz2 HU HO hl9 hl4e
  go_wp2_with (at_builtin; refine wpList_appZ rfl _ _ rfl w2.heap.size _ _ rfl HO4.out _ (107 - s.size) rfl (by omega) (by omega) hz4 ?_)
  intro v5 w5 hO5 hU5
  rw [← HE.out] at hO5
  have hlen := slotBody_len mark s hs
  obtain ⟨bd, hbd⟩ : ∃ bd, bd = slotBody mark s := ⟨_, rfl⟩
  rw [← hbd] at hO5 hlen HE
  have HX := Sd.mk (show slotLaid mark s = bd ++ beB 4 (crc bd).toNat ++ beB 8 mark by rw [slotLaid, hbd])
  obtain ⟨A5, c5, rfl⟩ := hO5.isSlice
  have hnot' : w.heap.size + 1 ∉ (Value.slice A4 (9 + s.size) c4).ownBlock.toList := fun h => by have := Ow.block HO4.out _ h; omega
  have HM5 : Sd (OwB (w.heap.size + 1) w5 (.slice (some ⟨w.heap.size + 1, 0, none⟩) 8 8) (beB 8 mark)) := ⟨Ow.upd HM4.out hU5 (fun g hg => by cases hg; exact hnot')⟩
  have HU5 : Sd (Upd [] w w5) := ⟨HU4.out.trans' hU5 (by simp) (fun x hx => .inr (by have := Ow.block HO4.out x hx; omega))⟩
  rw [hlen] at hO5 ⊢
  have HC := Sd.mk (crc_any (hO5.bs [] (by simp)))
  have HO5 := Sd.mk hO5
  have hz5 : w2.heap.size ≤ w5.heap.size := Nat.le_trans hz4 hU5.size
  obtain ⟨k, hk⟩ : ∃ k : Nat, crc bd = k := ⟨(crc bd).toNat, by have := crc_lo bd; omega⟩
  have hk1 : k ≤ 4294967295 := by have := crc_hi bd; omega
  rw [hk] at HC HX
  rw [Int.toNat_natCast] at HX
  have HF5 := Sd.mk (fixed_ok w5 k 4 (by decide) (by decide) (by omega) (by omega))
  clear hU5 hO5 hk HU4 HM4 HO4 hnot' hbd hS4
  go_wp2_with (first | (go_at_call 69; refine HC.out.mono ?_; rintro e w' ⟨rfl, rfl⟩) | fail)
  refine HF5.out.mono ?_
  rintro e w6 ⟨rfl, hO, hU⟩
  have HO6 : Sd (OwB w2.heap.size w6 (.slice A5 116 c5) bd) := ⟨Ow.keep HO5.out hU⟩
  have HM6 : Sd (OwB (w.heap.size + 1) w6 (.slice (some ⟨w.heap.size + 1, 0, none⟩) 8 8) (beB 8 mark)) := ⟨Ow.keep HM5.out hU⟩
  have HU6 := Sd.mk (HU5.out.trans hU)
  have HS6 := Sd.mk (hO.bs [] (by simp))
  have hz6 : w2.heap.size ≤ w6.heap.size := Nat.le_trans hz5 hU.size
  clear hO hU HO5 HM5 HU5
  go_wp2_with (at_builtin; refine wpList_appB rfl _ _ rfl w2.heap.size _ _ rfl HO6.out [] _ _ rfl HS6.out (by rw [beB_length]; omega) hz6 ?_)
  intro v7 w7 hO7 hU7 hN7
  obtain ⟨A7, c7, rfl⟩ := hO7.isSlice
  have hl7 : (bd ++ beB 4 k).length = 120 := by rw [List.length_append, hlen, beB_length]
  obtain ⟨l7, hl7e⟩ : ∃ l7, l7 = bd ++ beB 4 k := ⟨_, rfl⟩
  rw [hl7] at hO7 ⊢
  rw [← hl7e] at hO7 hl7 HX
  clear hl7e
  have hnot' : w.heap.size + 1 ∉ (Value.slice A5 116 c5).ownBlock.toList := fun h => by have := Ow.block HO6.out _ h; omega
  have HM7 : Sd (Bs [] w7 (.slice (some ⟨w.heap.size + 1, 0, none⟩) 8 8) (beB 8 mark)) := ⟨OwB.bs (show OwB (w.heap.size + 1) w7 _ (beB 8 mark) from Ow.upd HM6.out hU7 (fun g hg => by cases hg; exact hnot')) [] (by simp)⟩
  have HU7 : Sd (Upd [] w w7) := ⟨HU6.out.trans' hU7 (by simp) (fun x hx => .inr (by have := Ow.block HO6.out x hx; omega))⟩
  have HO7 := Sd.mk hO7
  have hz7 : w2.heap.size ≤ w7.heap.size := Nat.le_trans hz6 hU7.size
  clear hO7 hU7 hN7 hnot' HO6 HM6 HU6 HS6 hlen HE
  go_wp2_with (at_builtin; refine wpList_appB rfl _ _ rfl w2.heap.size _ _ rfl HO7.out [] _ _ rfl HM7.out (by rw [beB_length, hl7]; omega) hz7 ?_)
  intro v8 w8 hO8 hU8 hN8
  obtain ⟨A8, c8, rfl⟩ := hO8.isSlice
  rw [List.length_append, hl7, beB_length] at hO8 ⊢
  have HO8 := Sd.mk hO8
  have HU8 : Sd (Upd [] w w8) := ⟨HU7.out.trans' hU8 (by simp) (fun x hx => .inr (by have := Ow.block HO7.out x hx; omega))⟩
  clear hO8 hU8 hN8
  go_wp2
  go_ret
  refine ⟨A8, c8, rfl, ?_, HU8.out⟩
  rw [HX.out]
  exact Ow.lower HO8.out (by omega)
end Go.Proofs.YtpcndlipdfcnfaaDoor
