/- A leaf's sector: journal.laid. -/
import Derived.Test.YtpcndlipdfcnfaaDoorConcat
import Derived.Test.YtpcndlipdfcnfaaDoorRegion
namespace Go.Proofs.YtpcndlipdfcnfaaDoor
open Go Go.RowKit

set_option maxRecDepth 100000 in
set_option maxHeartbeats 400000 in
theorem jfixed_is (w : World) (n width : Nat) (h1 : 1 ≤ width) (h8 : width ≤ 8) (hn : n ≤ 9007199254740991) (hs : n < 256 ^ width) :
    Calls Tryd.prog 68 #[.int .i64 n, .int .i64 width] w fun e w' => e = .returned (.slice (some ⟨w.heap.size, 0, none⟩) width width) ∧ Bs [] w' (.slice (some ⟨w.heap.size, 0, none⟩) width width) (beB width n) ∧ Upd [] w w' := by
  have HF := Sd.mk (fixed_ok w n width h1 h8 hn hs)
  clear hs
  go_enter Tryd.func68, Tryd.ntmps68
  go_wp2_with fail
  refine HF.out.mono ?_
  rintro e w1 ⟨rfl, hO, hU⟩
  have HO := Sd.mk (hO.bs [] (by simp))
  have HU := Sd.mk hU
  clear hO hU
  go_wp2
  go_ret
  exact ⟨rfl, HO.out, HU.out⟩

section
variable {P : Program} {ops : Array Oper} {Q : Exit → Act → World → Prop} {md : Region.Mode} {S : World → Prop} {t : Nat}
/-- Three operations may come up. -/
theorem wpX_three (i j l : Nat) {oi oj ol : Oper} {ri rj rl : List Oper} {n : Nat} {listed : Array Bool} {a : Act} {w : World} (hr : Region.ready md ops listed = [i, j, l]) (hi : ops.toList.drop i = oi :: ri) (hj : ops.toList.drop j = oj :: rj) (hl : ops.toList.drop l = ol :: rl)
    (h : ∀ K : Act → World → Prop, (∀ a' w', (i < t → S w') → wpX P md ops Q S t n (listed.setIfInBounds i true) a' w' → K a' w') → if Region.wanted oi (yielded ops a.tmps) = true then Oper.wp P oi a w K Q else K (a.put oi.dst undef) w)
    (h2 : ∀ K : Act → World → Prop, (∀ a' w', (j < t → S w') → wpX P md ops Q S t n (listed.setIfInBounds j true) a' w' → K a' w') → if Region.wanted oj (yielded ops a.tmps) = true then Oper.wp P oj a w K Q else K (a.put oj.dst undef) w)
    (h3 : ∀ K : Act → World → Prop, (∀ a' w', (l < t → S w') → wpX P md ops Q S t n (listed.setIfInBounds l true) a' w' → K a' w') → if Region.wanted ol (yielded ops a.tmps) = true then Oper.wp P ol a w K Q else K (a.put ol.dst undef) w) : wpX P md ops Q S t (n + 1) listed a w := by
  have key : ∀ (k : Nat) {ok : Oper}, ops[k]? = some ok → (∀ K : Act → World → Prop, (∀ a' w', (k < t → S w') → wpX P md ops Q S t n (listed.setIfInBounds k true) a' w' → K a' w') → if Region.wanted ok (yielded ops a.tmps) = true then Oper.wp P ok a w K Q else K (a.put ok.dst undef) w) →
      wpOp P ops Q k (fun a' w' => (k < t → S w') ∧ wpX P md ops Q S t n (listed.setIfInBounds k true) a' w') a w := by
    intro k ok hk h
    have := h (fun a' w' => (k < t → S w') ∧ wpX P md ops Q S t n (listed.setIfInBounds k true) a' w') (fun a' w' h1 h2 => ⟨h1, h2⟩)
    unfold wpOp
    simp only [hk]
    split
    · rename_i hw; rw [if_pos hw] at this; exact .inl this
    · rename_i hw; rw [if_neg hw] at this; exact this
  refine ⟨fun h0 => absurd h0 (by rw [hr]; simp), fun k hk => ?_⟩
  rw [hr] at hk
  simp only [List.mem_cons, List.not_mem_nil, or_false] at hk
  rcases hk with rfl | rfl | rfl
  · exact key _ (op_at hi) h
  · exact key _ (op_at hj) h2
  · exact key _ (op_at hl) h3
end

theorem rd_block {w : World} {b : Nat} {xs : List Value} {t : TypeId} {f : Nat × Nat} (h : w.heap[b]? = some (.cells xs.toArray t f)) (hl : xs.length ≤ maxLen) : Rd [] w (.slice (some ⟨b, 0, none⟩) xs.length xs.length) xs :=
  .inr ⟨b, 0, xs.length, rfl, Nat.le_refl _, hl, by simp, lt_of_block h, fun j x hj => by rw [Nat.zero_add]; exact cell_of h (by simpa using hj)⟩
theorem two_bytes (y : World) (k n : Nat) (hk : k < 256) (hn : n < 256) : Bs [] (y.alloc (.cells #[.int .u8 k, .int .u8 n] 5)) (.slice (some ⟨y.heap.size, 0, none⟩) 2 2) [UInt8.ofNat k, UInt8.ofNat n] := by
  have e : ∀ q : Nat, q < 256 → Value.int .u8 (q : Int) = u8v (UInt8.ofNat q) := fun q hq => by rw [← u8v_mod]; congr 1; omega
  rw [e k hk, e n hn]
  exact rd_block (xs := [u8v (UInt8.ofNat k), u8v (UInt8.ofNat n)]) (heap_alloc_new y _) (by rw [maxLen_is]; show 2 ≤ _; decide)
theorem str_bytes (y : World) (s : ByteArray) (hs : s.size ≤ 1000) : ∃ c W, (convert 9 26 (.string s)).run Tryd.prog y = .ok (.slice (some ⟨y.heap.size, 0, none⟩) s.size c) W ∧ Upd [] y W ∧ Bs [] W (.slice (some ⟨y.heap.size, 0, none⟩) s.size c) s.data.toList := by
  refine ⟨_, _, Lib.run_convert_string_bytes (P := Tryd.prog) y _ _ _ s undStr undBs undU8, ⟨rfl, rfl, rfl, by rw [Lib.bytesWorld_size]; omega, fun k hk _ => Lib.bytesWorld_at_old y _ s k hk⟩, ?_⟩
  have hge := grownCap_ge y s.size 0 5
  have hle := grownCap_le_maxLen y s.size 0 5 (by rw [maxLen_is]; omega)
  refine Bs.mk (l := s.data.toList) (show s.size ≤ _ from hge) hle (by simp) (by rw [Lib.bytesWorld_size]; omega) (fun j x hj => ?_)
  have hj1 : j < s.size := (List.getElem?_eq_some_iff.1 hj).1
  rw [Nat.zero_add, Lib.bytesWorld_cell y _ s j hj1, List.getD_eq_getElem?_getD, hj]
  rfl
theorem concat4 {y : World} {v1 v2 v3 v4 : Value} {l1 l2 l3 l4 : List UInt8} (h1 : Bs [] y v1 l1) (h2 : Bs [] y v2 l2) (h3 : Bs [] y v3 l3) (h4 : Bs [] y v4 l4) {n : Nat} (hn : (l1 ++ l2 ++ l3 ++ l4).length = n) (hn1 : 1 ≤ n) (hn2 : n ≤ 1000) :
    Calls Tryd.prog 67 #[.slice (some ⟨y.heap.size, 0, none⟩) 4 4] (y.alloc (.cells #[v1, v2, v3, v4] 26)) fun e w' => ∃ A c, e = .returned (.slice A n c) ∧ OwB y.heap.size w' (.slice A n c) (l1 ++ l2 ++ l3 ++ l4) ∧ Upd [] y w' := by
  have u : Upd [] y (y.alloc (.cells #[v1, v2, v3, v4] 26)) := (Upd.refl [] y).alloc _
  have hf : [l1, l2, l3, l4].flatten = l1 ++ l2 ++ l3 ++ l4 := by simp
  have hr := rd_block (xs := [v1, v2, v3, v4]) (heap_alloc_new y (.cells #[v1, v2, v3, v4] 26)) (by rw [maxLen_is]; show 4 ≤ _; decide)
  have := concat_any (ls := [l1, l2, l3, l4]) hr rfl (fun i hi hi' => by
    match i, hi, hi' with
    | 0, _, _ => exact h1.keep u
    | 1, _, _ => exact h2.keep u
    | 2, _, _ => exact h3.keep u
    | 3, _, _ => exact h4.keep u) (by rw [hf]; omega) (by rw [hf]; omega)
  rw [hf, hn] at this
  refine this.mono ?_
  rintro e w' ⟨A, c, rfl, hO, hU⟩
  exact ⟨A, c, rfl, Ow.lower hO u.size, u.trans hU⟩
theorem concat3 {y : World} {v1 v2 v3 : Value} {l1 l2 l3 : List UInt8} (h1 : Bs [] y v1 l1) (h2 : Bs [] y v2 l2) (h3 : Bs [] y v3 l3) {n : Nat} (hn : (l1 ++ l2 ++ l3).length = n) (hn1 : 1 ≤ n) (hn2 : n ≤ 1000) :
    Calls Tryd.prog 67 #[.slice (some ⟨y.heap.size, 0, none⟩) 3 3] (y.alloc (.cells #[v1, v2, v3] 26)) fun e w' => ∃ A c, e = .returned (.slice A n c) ∧ OwB y.heap.size w' (.slice A n c) (l1 ++ l2 ++ l3) ∧ Upd [] y w' := by
  have u : Upd [] y (y.alloc (.cells #[v1, v2, v3] 26)) := (Upd.refl [] y).alloc _
  have hf : [l1, l2, l3].flatten = l1 ++ l2 ++ l3 := by simp
  have hr := rd_block (xs := [v1, v2, v3]) (heap_alloc_new y (.cells #[v1, v2, v3] 26)) (by rw [maxLen_is]; show 3 ≤ _; decide)
  have := concat_any (ls := [l1, l2, l3]) hr rfl (fun i hi hi' => by
    match i, hi, hi' with
    | 0, _, _ => exact h1.keep u
    | 1, _, _ => exact h2.keep u
    | 2, _, _ => exact h3.keep u) (by rw [hf]; omega) (by rw [hf]; omega)
  rw [hf, hn] at this
  refine this.mono ?_
  rintro e w' ⟨A, c, rfl, hO, hU⟩
  exact ⟨A, c, rfl, Ow.lower hO u.size, u.trans hU⟩
theorem box4 {y y' : World} {b : Nat} {e n k s : Value} (h : y.cell? ⟨b, 0, none⟩ = some e ∧ y.cell? ⟨b, 1, none⟩ = some n ∧ y.cell? ⟨b, 2, none⟩ = some k ∧ y.cell? ⟨b, 3, none⟩ = some s) (u : Upd [] y y') :
    y'.cell? ⟨b, 0, none⟩ = some e ∧ y'.cell? ⟨b, 1, none⟩ = some n ∧ y'.cell? ⟨b, 2, none⟩ = some k ∧ y'.cell? ⟨b, 3, none⟩ = some s :=
  ⟨u.cell h.1 (by simp), u.cell h.2.1 (by simp), u.cell h.2.2.1 (by simp), u.cell h.2.2.2 (by simp)⟩

set_option maxRecDepth 100000 in
set_option maxHeartbeats 2000000 in
theorem leafLaid_is (w : World) (epoch number kind : Nat) (s : ByteArray) (he : epoch ≤ 281474976710655) (hn : number < 65536) (hk : kind < 256) (hs : s.size ≤ 108) (hs1 : 1 ≤ s.size) :
    Calls Tryd.prog 49 #[.agg #[.int .i64 epoch, .int .i64 number, .int .i64 kind, .string s]] w fun e w' => ∃ A c l, e = .returned (.slice A 128 c) ∧ l.length = 128 ∧ OwB w.heap.size w' (.slice A 128 c) l ∧ Upd [] w w' := by
  have L2 := Sd.mk (fun w' => jfixed_is w' epoch 6 (by decide) (by decide) (by omega) (by omega))
  have L5 := Sd.mk (fun w' => jfixed_is w' number 2 (by decide) (by decide) (by omega) (by omega))
  have hwk : IntKind.u8.wrap (kind : Int) = kind := by rw [IntKind.wrap_u8]; omega
  have hws : IntKind.u8.wrap (s.size : Int) = s.size := by rw [IntKind.wrap_u8]; omega
  have L13 := Sd.mk (fun y : World => two_bytes y kind s.size hk (by omega))
  have L16 := Sd.mk (fun y : World => str_bytes y s (by omega))
  go_enter Tryd.func49, Tryd.ntmps49
  go_wp2
  obtain ⟨y0, hy0⟩ : ∃ y0, y0 = (w.alloc (.cells #[.int .i64 epoch, .int .i64 number, .int .i64 kind, .string s] 97)).drew := ⟨_, rfl⟩
  have u0 : Upd [] w y0 := by rw [hy0]; exact ((Upd.refl [] w).alloc _).drew
  have hbx : y0.heap[w.heap.size]? = some (.cells #[.int .i64 epoch, .int .i64 number, .int .i64 kind, .string s] 97 (0, 0)) := by rw [hy0]; exact heap_alloc_new w _
  have hS0 : y0.cell? ⟨w.heap.size, 0, none⟩ = some (.int .i64 epoch) ∧ y0.cell? ⟨w.heap.size, 1, none⟩ = some (.int .i64 number) ∧ y0.cell? ⟨w.heap.size, 2, none⟩ = some (.int .i64 kind) ∧ y0.cell? ⟨w.heap.size, 3, none⟩ = some (.string s) := ⟨cell_of hbx rfl, cell_of hbx rfl, cell_of hbx rfl, cell_of hbx rfl⟩
  have hz0 : w.heap.size < y0.heap.size := lt_of_block hbx
  refine wp_region_x 20 (fun w' : World => w'.cell? ⟨w.heap.size, 0, none⟩ = some (.int .i64 epoch) ∧ w'.cell? ⟨w.heap.size, 1, none⟩ = some (.int .i64 number) ∧ w'.cell? ⟨w.heap.size, 2, none⟩ = some (.int .i64 kind) ∧ w'.cell? ⟨w.heap.size, 3, none⟩ = some (.string s)) rfl ?_
  rw [← hy0]
  clear hy0 hbx
  refine wpX_take 0 (v := ?_) rfl (by kernel_rfl) (fun _ _ _ h => h) (Or.inl ⟨by rfl, ?_⟩) (by assumption) ?_
  rotate_left
  · intro wq hSq; (try dsimp only at hSq); go_simp; try (with_reducible rfl)
  try simp only [Act.put, List.setIfInBounds_toArray, List.set_cons_zero, List.set_cons_succ]
  refine wpX_take 1 (v := ?_) rfl (by kernel_rfl) (fun _ _ _ h => h) (Or.inl ⟨by rfl, ?_⟩) (by assumption) ?_
  rotate_left
  · intro wq hSq; (try dsimp only at hSq); go_simp; try (with_reducible rfl)
  try simp only [Act.put, List.setIfInBounds_toArray, List.set_cons_zero, List.set_cons_succ]
  refine wpX_take 3 (v := ?_) rfl (by kernel_rfl) (fun _ _ _ h => h) (Or.inl ⟨by rfl, ?_⟩) (by assumption) ?_
  rotate_left
  · intro wq hSq; (try dsimp only at hSq); go_simp; try (with_reducible rfl)
  try simp only [Act.put, List.setIfInBounds_toArray, List.set_cons_zero, List.set_cons_succ]
  refine wpX_take 4 (v := ?_) rfl (by kernel_rfl) (fun _ _ _ h => h) (Or.inl ⟨by rfl, ?_⟩) (by assumption) ?_
  rotate_left
  · intro wq hSq; (try dsimp only at hSq); go_simp; try (with_reducible rfl)
  try simp only [Act.put, List.setIfInBounds_toArray, List.set_cons_zero, List.set_cons_succ]
  refine wpX_take 6 (v := ?_) rfl (by kernel_rfl) (fun _ _ _ h => h) (Or.inl ⟨by rfl, ?_⟩) (by assumption) ?_
  rotate_left
  · intro wq hSq; (try dsimp only at hSq); go_simp; try (with_reducible rfl)
  try simp only [Act.put, List.setIfInBounds_toArray, List.set_cons_zero, List.set_cons_succ]
  refine wpX_take 7 (v := ?_) rfl (by kernel_rfl) (fun _ _ _ h => h) (Or.inl ⟨by rfl, ?_⟩) (by assumption) ?_
  rotate_left
  · intro wq hSq; (try dsimp only at hSq); go_simp; try (with_reducible rfl)
  try simp only [Act.put, List.setIfInBounds_toArray, List.set_cons_zero, List.set_cons_succ]
  refine wpX_take 8 (v := ?_) rfl (by kernel_rfl) (fun _ _ _ h => h) (Or.inl ⟨by rfl, ?_⟩) (by assumption) ?_
  rotate_left
  · intro wq hSq; (try dsimp only at hSq); go_simp; try (with_reducible rfl)
  try simp only [Act.put, List.setIfInBounds_toArray, List.set_cons_zero, List.set_cons_succ]
  refine wpX_take 9 (v := ?_) rfl (by kernel_rfl) (fun _ _ _ h => h) (Or.inl ⟨by rfl, ?_⟩) (by assumption) ?_
  rotate_left
  · intro wq hSq; (try dsimp only at hSq); go_simp; try (with_reducible rfl)
  try simp only [Act.put, List.setIfInBounds_toArray, List.set_cons_zero, List.set_cons_succ]
  refine wpX_take 10 (v := ?_) rfl (by kernel_rfl) (fun _ _ _ h => h) (Or.inl ⟨by rfl, ?_⟩) (by assumption) ?_
  rotate_left
  · intro wq hSq; (try dsimp only at hSq); go_simp; try (with_reducible rfl)
  try simp only [Act.put, List.setIfInBounds_toArray, List.set_cons_zero, List.set_cons_succ]
  refine wpX_take 11 (v := ?_) rfl (by kernel_rfl) (fun _ _ _ h => h) (Or.inl ⟨by rfl, ?_⟩) (by assumption) ?_
  rotate_left
  · intro wq hSq; (try dsimp only at hSq); go_simp; try (with_reducible rfl)
  try simp only [Act.put, List.setIfInBounds_toArray, List.set_cons_zero, List.set_cons_succ]
  refine wpX_take 12 (v := ?_) rfl (by kernel_rfl) (fun _ _ _ h => h) (Or.inl ⟨by rfl, ?_⟩) (by assumption) ?_
  rotate_left
  · intro wq hSq; (try dsimp only at hSq); go_simp; try (with_reducible rfl)
  try simp only [Act.put, List.setIfInBounds_toArray, List.set_cons_zero, List.set_cons_succ]
  refine wpX_take 14 (v := ?_) rfl (by kernel_rfl) (fun _ _ _ h => h) (Or.inl ⟨by rfl, ?_⟩) (by assumption) ?_
  rotate_left
  · intro wq hSq; (try dsimp only at hSq); go_simp; try (with_reducible rfl)
  try simp only [Act.put, List.setIfInBounds_toArray, List.set_cons_zero, List.set_cons_succ]
  refine wpX_take 15 (v := ?_) rfl (by kernel_rfl) (fun _ _ _ h => h) (Or.inl ⟨by rfl, ?_⟩) (by assumption) ?_
  rotate_left
  · intro wq hSq; (try dsimp only at hSq); go_simp; try (with_reducible rfl)
  try simp only [Act.put, List.setIfInBounds_toArray, List.set_cons_zero, List.set_cons_succ]
  -- paths begin
  refine wpX_three 2 13 16 (by kernel_rfl) rfl rfl rfl (fun K hK => ?_) (fun K hK => ?_) (fun K hK => ?_)
  go_simp
  refine (L2.out y0).mono ?_
  rintro e y1 ⟨rfl, hb, u1⟩
  have F6 := Sd.mk (fun w' (u : Upd [] y1 w') => Bs.keep hb u)
  clear hb
  have hS1 := box4 hS0 u1
  refine hK _ _ (fun _ => hS1) ?_
  try simp only [Act.put, List.setIfInBounds_toArray, List.set_cons_zero, List.set_cons_succ]
  clear hK K
  refine wpX_three 5 13 16 (by kernel_rfl) rfl rfl rfl (fun K hK => ?_) (fun K hK => ?_) (fun K hK => ?_)
  go_simp
  refine (L5.out y1).mono ?_
  rintro e y2 ⟨rfl, hb, u2⟩
  have F9 := Sd.mk (fun w' (u : Upd [] y2 w') => Bs.keep hb u)
  clear hb
  have hS2 := box4 hS1 u2
  refine hK _ _ (fun _ => hS2) ?_
  try simp only [Act.put, List.setIfInBounds_toArray, List.set_cons_zero, List.set_cons_succ]
  clear hK K
  refine wpX_two 13 16 (by kernel_rfl) rfl rfl (fun K hK => ?_) (fun K hK => ?_)
  go_simp
  obtain ⟨y3, hy⟩ : ∃ y, y = y2.alloc (.cells #[.int .u8 kind, .int .u8 s.size] 5) := ⟨_, rfl⟩
  have u3 : Upd [] y2 y3 := by rw [hy]; exact (Upd.refl [] _).alloc _
  have F17 := Sd.mk (fun w' (u : Upd [] y3 w') => Bs.keep (show Bs [] y3 _ _ by rw [hy]; exact L13.out y2) u)
  rw [← hy]
  clear hy
  have hS3 := box4 hS2 u3
  refine hK _ _ (fun _ => hS3) ?_
  try simp only [Act.put, List.setIfInBounds_toArray, List.set_cons_zero, List.set_cons_succ]
  clear hK K
  refine wpX_one 16 (by kernel_rfl) rfl (fun K hK => ?_)
  obtain ⟨c16, y4, hr, u4, hb⟩ := L16.out y3
  go_simp
  have F20 := Sd.mk (fun w' (u : Upd [] y4 w') => Bs.keep hb u)
  clear hb hr
  have hS4 := box4 hS3 u4
  refine hK _ _ (fun _ => hS4) ?_
  try simp only [Act.put, List.setIfInBounds_toArray, List.set_cons_zero, List.set_cons_succ]
  clear hK K
  rotate_left
  obtain ⟨c16, y3, hr, u3, hb⟩ := L16.out y2
  go_simp
  have F20 := Sd.mk (fun w' (u : Upd [] y3 w') => Bs.keep hb u)
  clear hb hr
  have hS3 := box4 hS2 u3
  refine hK _ _ (fun _ => hS3) ?_
  try simp only [Act.put, List.setIfInBounds_toArray, List.set_cons_zero, List.set_cons_succ]
  clear hK K
  refine wpX_one 13 (by kernel_rfl) rfl (fun K hK => ?_)
  go_simp
  obtain ⟨y4, hy⟩ : ∃ y, y = y3.alloc (.cells #[.int .u8 kind, .int .u8 s.size] 5) := ⟨_, rfl⟩
  have u4 : Upd [] y3 y4 := by rw [hy]; exact (Upd.refl [] _).alloc _
  have F17 := Sd.mk (fun w' (u : Upd [] y4 w') => Bs.keep (show Bs [] y4 _ _ by rw [hy]; exact L13.out y3) u)
  rw [← hy]
  clear hy
  have hS4 := box4 hS3 u4
  refine hK _ _ (fun _ => hS4) ?_
  try simp only [Act.put, List.setIfInBounds_toArray, List.set_cons_zero, List.set_cons_succ]
  clear hK K
  rotate_left
  go_simp
  obtain ⟨y2, hy⟩ : ∃ y, y = y1.alloc (.cells #[.int .u8 kind, .int .u8 s.size] 5) := ⟨_, rfl⟩
  have u2 : Upd [] y1 y2 := by rw [hy]; exact (Upd.refl [] _).alloc _
  have F17 := Sd.mk (fun w' (u : Upd [] y2 w') => Bs.keep (show Bs [] y2 _ _ by rw [hy]; exact L13.out y1) u)
  rw [← hy]
  clear hy
  have hS2 := box4 hS1 u2
  refine hK _ _ (fun _ => hS2) ?_
  try simp only [Act.put, List.setIfInBounds_toArray, List.set_cons_zero, List.set_cons_succ]
  clear hK K
  refine wpX_two 5 16 (by kernel_rfl) rfl rfl (fun K hK => ?_) (fun K hK => ?_)
  go_simp
  refine (L5.out y2).mono ?_
  rintro e y3 ⟨rfl, hb, u3⟩
  have F9 := Sd.mk (fun w' (u : Upd [] y3 w') => Bs.keep hb u)
  clear hb
  have hS3 := box4 hS2 u3
  refine hK _ _ (fun _ => hS3) ?_
  try simp only [Act.put, List.setIfInBounds_toArray, List.set_cons_zero, List.set_cons_succ]
  clear hK K
  refine wpX_one 16 (by kernel_rfl) rfl (fun K hK => ?_)
  obtain ⟨c16, y4, hr, u4, hb⟩ := L16.out y3
  go_simp
  have F20 := Sd.mk (fun w' (u : Upd [] y4 w') => Bs.keep hb u)
  clear hb hr
  have hS4 := box4 hS3 u4
  refine hK _ _ (fun _ => hS4) ?_
  try simp only [Act.put, List.setIfInBounds_toArray, List.set_cons_zero, List.set_cons_succ]
  clear hK K
  rotate_left
  obtain ⟨c16, y3, hr, u3, hb⟩ := L16.out y2
  go_simp
  have F20 := Sd.mk (fun w' (u : Upd [] y3 w') => Bs.keep hb u)
  clear hb hr
  have hS3 := box4 hS2 u3
  refine hK _ _ (fun _ => hS3) ?_
  try simp only [Act.put, List.setIfInBounds_toArray, List.set_cons_zero, List.set_cons_succ]
  clear hK K
  refine wpX_one 5 (by kernel_rfl) rfl (fun K hK => ?_)
  go_simp
  refine (L5.out y3).mono ?_
  rintro e y4 ⟨rfl, hb, u4⟩
  have F9 := Sd.mk (fun w' (u : Upd [] y4 w') => Bs.keep hb u)
  clear hb
  have hS4 := box4 hS3 u4
  refine hK _ _ (fun _ => hS4) ?_
  try simp only [Act.put, List.setIfInBounds_toArray, List.set_cons_zero, List.set_cons_succ]
  clear hK K
  rotate_left
  obtain ⟨c16, y2, hr, u2, hb⟩ := L16.out y1
  go_simp
  have F20 := Sd.mk (fun w' (u : Upd [] y2 w') => Bs.keep hb u)
  clear hb hr
  have hS2 := box4 hS1 u2
  refine hK _ _ (fun _ => hS2) ?_
  try simp only [Act.put, List.setIfInBounds_toArray, List.set_cons_zero, List.set_cons_succ]
  clear hK K
  refine wpX_two 5 13 (by kernel_rfl) rfl rfl (fun K hK => ?_) (fun K hK => ?_)
  go_simp
  refine (L5.out y2).mono ?_
  rintro e y3 ⟨rfl, hb, u3⟩
  have F9 := Sd.mk (fun w' (u : Upd [] y3 w') => Bs.keep hb u)
  clear hb
  have hS3 := box4 hS2 u3
  refine hK _ _ (fun _ => hS3) ?_
  try simp only [Act.put, List.setIfInBounds_toArray, List.set_cons_zero, List.set_cons_succ]
  clear hK K
  refine wpX_one 13 (by kernel_rfl) rfl (fun K hK => ?_)
  go_simp
  obtain ⟨y4, hy⟩ : ∃ y, y = y3.alloc (.cells #[.int .u8 kind, .int .u8 s.size] 5) := ⟨_, rfl⟩
  have u4 : Upd [] y3 y4 := by rw [hy]; exact (Upd.refl [] _).alloc _
  have F17 := Sd.mk (fun w' (u : Upd [] y4 w') => Bs.keep (show Bs [] y4 _ _ by rw [hy]; exact L13.out y3) u)
  rw [← hy]
  clear hy
  have hS4 := box4 hS3 u4
  refine hK _ _ (fun _ => hS4) ?_
  try simp only [Act.put, List.setIfInBounds_toArray, List.set_cons_zero, List.set_cons_succ]
  clear hK K
  rotate_left
  go_simp
  obtain ⟨y3, hy⟩ : ∃ y, y = y2.alloc (.cells #[.int .u8 kind, .int .u8 s.size] 5) := ⟨_, rfl⟩
  have u3 : Upd [] y2 y3 := by rw [hy]; exact (Upd.refl [] _).alloc _
  have F17 := Sd.mk (fun w' (u : Upd [] y3 w') => Bs.keep (show Bs [] y3 _ _ by rw [hy]; exact L13.out y2) u)
  rw [← hy]
  clear hy
  have hS3 := box4 hS2 u3
  refine hK _ _ (fun _ => hS3) ?_
  try simp only [Act.put, List.setIfInBounds_toArray, List.set_cons_zero, List.set_cons_succ]
  clear hK K
  refine wpX_one 5 (by kernel_rfl) rfl (fun K hK => ?_)
  go_simp
  refine (L5.out y3).mono ?_
  rintro e y4 ⟨rfl, hb, u4⟩
  have F9 := Sd.mk (fun w' (u : Upd [] y4 w') => Bs.keep hb u)
  clear hb
  have hS4 := box4 hS3 u4
  refine hK _ _ (fun _ => hS4) ?_
  try simp only [Act.put, List.setIfInBounds_toArray, List.set_cons_zero, List.set_cons_succ]
  clear hK K
  rotate_left
  go_simp
  obtain ⟨y1, hy⟩ : ∃ y, y = y0.alloc (.cells #[.int .u8 kind, .int .u8 s.size] 5) := ⟨_, rfl⟩
  have u1 : Upd [] y0 y1 := by rw [hy]; exact (Upd.refl [] _).alloc _
  have F17 := Sd.mk (fun w' (u : Upd [] y1 w') => Bs.keep (show Bs [] y1 _ _ by rw [hy]; exact L13.out y0) u)
  rw [← hy]
  clear hy
  have hS1 := box4 hS0 u1
  refine hK _ _ (fun _ => hS1) ?_
  try simp only [Act.put, List.setIfInBounds_toArray, List.set_cons_zero, List.set_cons_succ]
  clear hK K
  refine wpX_two 2 16 (by kernel_rfl) rfl rfl (fun K hK => ?_) (fun K hK => ?_)
  go_simp
  refine (L2.out y1).mono ?_
  rintro e y2 ⟨rfl, hb, u2⟩
  have F6 := Sd.mk (fun w' (u : Upd [] y2 w') => Bs.keep hb u)
  clear hb
  have hS2 := box4 hS1 u2
  refine hK _ _ (fun _ => hS2) ?_
  try simp only [Act.put, List.setIfInBounds_toArray, List.set_cons_zero, List.set_cons_succ]
  clear hK K
  refine wpX_two 5 16 (by kernel_rfl) rfl rfl (fun K hK => ?_) (fun K hK => ?_)
  go_simp
  refine (L5.out y2).mono ?_
  rintro e y3 ⟨rfl, hb, u3⟩
  have F9 := Sd.mk (fun w' (u : Upd [] y3 w') => Bs.keep hb u)
  clear hb
  have hS3 := box4 hS2 u3
  refine hK _ _ (fun _ => hS3) ?_
  try simp only [Act.put, List.setIfInBounds_toArray, List.set_cons_zero, List.set_cons_succ]
  clear hK K
  refine wpX_one 16 (by kernel_rfl) rfl (fun K hK => ?_)
  obtain ⟨c16, y4, hr, u4, hb⟩ := L16.out y3
  go_simp
  have F20 := Sd.mk (fun w' (u : Upd [] y4 w') => Bs.keep hb u)
  clear hb hr
  have hS4 := box4 hS3 u4
  refine hK _ _ (fun _ => hS4) ?_
  try simp only [Act.put, List.setIfInBounds_toArray, List.set_cons_zero, List.set_cons_succ]
  clear hK K
  rotate_left
  obtain ⟨c16, y3, hr, u3, hb⟩ := L16.out y2
  go_simp
  have F20 := Sd.mk (fun w' (u : Upd [] y3 w') => Bs.keep hb u)
  clear hb hr
  have hS3 := box4 hS2 u3
  refine hK _ _ (fun _ => hS3) ?_
  try simp only [Act.put, List.setIfInBounds_toArray, List.set_cons_zero, List.set_cons_succ]
  clear hK K
  refine wpX_one 5 (by kernel_rfl) rfl (fun K hK => ?_)
  go_simp
  refine (L5.out y3).mono ?_
  rintro e y4 ⟨rfl, hb, u4⟩
  have F9 := Sd.mk (fun w' (u : Upd [] y4 w') => Bs.keep hb u)
  clear hb
  have hS4 := box4 hS3 u4
  refine hK _ _ (fun _ => hS4) ?_
  try simp only [Act.put, List.setIfInBounds_toArray, List.set_cons_zero, List.set_cons_succ]
  clear hK K
  rotate_left
  obtain ⟨c16, y2, hr, u2, hb⟩ := L16.out y1
  go_simp
  have F20 := Sd.mk (fun w' (u : Upd [] y2 w') => Bs.keep hb u)
  clear hb hr
  have hS2 := box4 hS1 u2
  refine hK _ _ (fun _ => hS2) ?_
  try simp only [Act.put, List.setIfInBounds_toArray, List.set_cons_zero, List.set_cons_succ]
  clear hK K
  refine wpX_one 2 (by kernel_rfl) rfl (fun K hK => ?_)
  go_simp
  refine (L2.out y2).mono ?_
  rintro e y3 ⟨rfl, hb, u3⟩
  have F6 := Sd.mk (fun w' (u : Upd [] y3 w') => Bs.keep hb u)
  clear hb
  have hS3 := box4 hS2 u3
  refine hK _ _ (fun _ => hS3) ?_
  try simp only [Act.put, List.setIfInBounds_toArray, List.set_cons_zero, List.set_cons_succ]
  clear hK K
  refine wpX_one 5 (by kernel_rfl) rfl (fun K hK => ?_)
  go_simp
  refine (L5.out y3).mono ?_
  rintro e y4 ⟨rfl, hb, u4⟩
  have F9 := Sd.mk (fun w' (u : Upd [] y4 w') => Bs.keep hb u)
  clear hb
  have hS4 := box4 hS3 u4
  refine hK _ _ (fun _ => hS4) ?_
  try simp only [Act.put, List.setIfInBounds_toArray, List.set_cons_zero, List.set_cons_succ]
  clear hK K
  rotate_left
  obtain ⟨c16, y1, hr, u1, hb⟩ := L16.out y0
  go_simp
  have F20 := Sd.mk (fun w' (u : Upd [] y1 w') => Bs.keep hb u)
  clear hb hr
  have hS1 := box4 hS0 u1
  refine hK _ _ (fun _ => hS1) ?_
  try simp only [Act.put, List.setIfInBounds_toArray, List.set_cons_zero, List.set_cons_succ]
  clear hK K
  refine wpX_two 2 13 (by kernel_rfl) rfl rfl (fun K hK => ?_) (fun K hK => ?_)
  go_simp
  refine (L2.out y1).mono ?_
  rintro e y2 ⟨rfl, hb, u2⟩
  have F6 := Sd.mk (fun w' (u : Upd [] y2 w') => Bs.keep hb u)
  clear hb
  have hS2 := box4 hS1 u2
  refine hK _ _ (fun _ => hS2) ?_
  try simp only [Act.put, List.setIfInBounds_toArray, List.set_cons_zero, List.set_cons_succ]
  clear hK K
  refine wpX_two 5 13 (by kernel_rfl) rfl rfl (fun K hK => ?_) (fun K hK => ?_)
  go_simp
  refine (L5.out y2).mono ?_
  rintro e y3 ⟨rfl, hb, u3⟩
  have F9 := Sd.mk (fun w' (u : Upd [] y3 w') => Bs.keep hb u)
  clear hb
  have hS3 := box4 hS2 u3
  refine hK _ _ (fun _ => hS3) ?_
  try simp only [Act.put, List.setIfInBounds_toArray, List.set_cons_zero, List.set_cons_succ]
  clear hK K
  refine wpX_one 13 (by kernel_rfl) rfl (fun K hK => ?_)
  go_simp
  obtain ⟨y4, hy⟩ : ∃ y, y = y3.alloc (.cells #[.int .u8 kind, .int .u8 s.size] 5) := ⟨_, rfl⟩
  have u4 : Upd [] y3 y4 := by rw [hy]; exact (Upd.refl [] _).alloc _
  have F17 := Sd.mk (fun w' (u : Upd [] y4 w') => Bs.keep (show Bs [] y4 _ _ by rw [hy]; exact L13.out y3) u)
  rw [← hy]
  clear hy
  have hS4 := box4 hS3 u4
  refine hK _ _ (fun _ => hS4) ?_
  try simp only [Act.put, List.setIfInBounds_toArray, List.set_cons_zero, List.set_cons_succ]
  clear hK K
  rotate_left
  go_simp
  obtain ⟨y3, hy⟩ : ∃ y, y = y2.alloc (.cells #[.int .u8 kind, .int .u8 s.size] 5) := ⟨_, rfl⟩
  have u3 : Upd [] y2 y3 := by rw [hy]; exact (Upd.refl [] _).alloc _
  have F17 := Sd.mk (fun w' (u : Upd [] y3 w') => Bs.keep (show Bs [] y3 _ _ by rw [hy]; exact L13.out y2) u)
  rw [← hy]
  clear hy
  have hS3 := box4 hS2 u3
  refine hK _ _ (fun _ => hS3) ?_
  try simp only [Act.put, List.setIfInBounds_toArray, List.set_cons_zero, List.set_cons_succ]
  clear hK K
  refine wpX_one 5 (by kernel_rfl) rfl (fun K hK => ?_)
  go_simp
  refine (L5.out y3).mono ?_
  rintro e y4 ⟨rfl, hb, u4⟩
  have F9 := Sd.mk (fun w' (u : Upd [] y4 w') => Bs.keep hb u)
  clear hb
  have hS4 := box4 hS3 u4
  refine hK _ _ (fun _ => hS4) ?_
  try simp only [Act.put, List.setIfInBounds_toArray, List.set_cons_zero, List.set_cons_succ]
  clear hK K
  rotate_left
  go_simp
  obtain ⟨y2, hy⟩ : ∃ y, y = y1.alloc (.cells #[.int .u8 kind, .int .u8 s.size] 5) := ⟨_, rfl⟩
  have u2 : Upd [] y1 y2 := by rw [hy]; exact (Upd.refl [] _).alloc _
  have F17 := Sd.mk (fun w' (u : Upd [] y2 w') => Bs.keep (show Bs [] y2 _ _ by rw [hy]; exact L13.out y1) u)
  rw [← hy]
  clear hy
  have hS2 := box4 hS1 u2
  refine hK _ _ (fun _ => hS2) ?_
  try simp only [Act.put, List.setIfInBounds_toArray, List.set_cons_zero, List.set_cons_succ]
  clear hK K
  refine wpX_one 2 (by kernel_rfl) rfl (fun K hK => ?_)
  go_simp
  refine (L2.out y2).mono ?_
  rintro e y3 ⟨rfl, hb, u3⟩
  have F6 := Sd.mk (fun w' (u : Upd [] y3 w') => Bs.keep hb u)
  clear hb
  have hS3 := box4 hS2 u3
  refine hK _ _ (fun _ => hS3) ?_
  try simp only [Act.put, List.setIfInBounds_toArray, List.set_cons_zero, List.set_cons_succ]
  clear hK K
  refine wpX_one 5 (by kernel_rfl) rfl (fun K hK => ?_)
  go_simp
  refine (L5.out y3).mono ?_
  rintro e y4 ⟨rfl, hb, u4⟩
  have F9 := Sd.mk (fun w' (u : Upd [] y4 w') => Bs.keep hb u)
  clear hb
  have hS4 := box4 hS3 u4
  refine hK _ _ (fun _ => hS4) ?_
  try simp only [Act.put, List.setIfInBounds_toArray, List.set_cons_zero, List.set_cons_succ]
  clear hK K
  rotate_left
  -- paths end
  all_goals
    have e4 := Upd.refl [] y4
    have e3 := u4
    have e2 := u3.trans u4
    have e1 := u2.trans e2
    have H6 := F6.out y4 (by assumption)
    have H9 := F9.out y4 (by assumption)
    have H17 := F17.out y4 (by assumption)
    have H20 := F20.out y4 (by assumption)
    have hU4 := u0.trans (u1.trans e1)
    have hz4 : w.heap.size < y4.heap.size := Nat.lt_of_lt_of_le hz0 (u1.trans e1).size
    clear e1 e2 e3 e4 F6 F9 F17 F20 u1 u2 u3 u4
    refine wpX_one 17 (by kernel_rfl) rfl (fun K hK => ?_)
    go_simp
    refine hK _ _ (fun _ => box4 hS4 ((Upd.refl [] y4).alloc _)) ?_
    try simp only [Act.put, List.setIfInBounds_toArray, List.set_cons_zero, List.set_cons_succ]
    clear hK K
    refine wpX_one 18 (by kernel_rfl) rfl (fun K hK => ?_)
    go_simp
    refine (concat4 H6 H9 H17 H20 (n := 10 + s.size) (by simp only [List.length_append, beB_length, List.length_cons, List.length_nil, Array.length_toList]; show 6 + 2 + 2 + s.size = _; omega) (by omega) (by omega)).mono ?_
    rintro e y6 ⟨A6, c6, rfl, hO6, hU6⟩
    have hS6 := box4 hS4 hU6
    refine hK _ _ (fun _ => hS6) ?_
    try simp only [Act.put, List.setIfInBounds_toArray, List.set_cons_zero, List.set_cons_succ]
    clear hK K
    refine wpX_take 19 (v := ?_) rfl (by kernel_rfl) (fun _ _ _ h => h) (Or.inl ⟨by rfl, ?_⟩) (by assumption) ?_
    rotate_left
    · intro wq hSq; (try dsimp only at hSq); go_simp; try (with_reducible rfl)
    try simp only [Act.put, List.setIfInBounds_toArray, List.set_cons_zero, List.set_cons_succ]
    refine wpX_done (by kernel_rfl) ?_ _
    obtain ⟨l6, hl6⟩ : ∃ l6, l6 = beB 6 epoch ++ beB 2 number ++ [UInt8.ofNat kind, UInt8.ofNat s.size] ++ s.data.toList := ⟨_, rfl⟩
    rw [← hl6] at hO6
    have hlen6 : l6.length = 10 + s.size := by
      rw [hl6]
      simp only [List.length_append, beB_length, List.length_cons, List.length_nil, Array.length_toList]
      show 6 + 2 + 2 + s.size = _
      omega
    have HO6 := Sd.mk hO6
    have HU6 := Sd.mk (hU4.trans hU6)
    have hx6 := hS6.1
    have hz6 : y4.heap.size ≤ y6.heap.size := hU6.size
    clear hl6 hO6 hU6 hU4 hS6 hS4 hS3 hS2 hS1 hS0 H6 H9 H17 H20
    go_wp2_with (at_builtin; refine wpList_appZ rfl _ _ rfl y4.heap.size _ _ rfl HO6.out _ (108 - s.size) rfl (by omega) (by omega) hz6 ?_)
    intro v7 w7 hO7 hU7
    obtain ⟨l7, hl7⟩ : ∃ l7, l7 = l6 ++ List.replicate (108 - s.size) 0 := ⟨_, rfl⟩
    rw [← hl7] at hO7
    have hlen7 : l7.length = 118 := by rw [hl7, List.length_append, List.length_replicate]; omega
    obtain ⟨A7, c7, rfl⟩ := hO7.isSlice
    rw [hlen7] at hO7 ⊢
    have hnb : w.heap.size ∉ (Value.slice A6 (10 + s.size) c6).ownBlock.toList := fun h => by have := Ow.block HO6.out _ h; omega
    have hx7 := hU7.cell hx6 hnb
    have HU7 : Sd (Upd [] w w7) := ⟨HU6.out.trans' hU7 (by simp) (fun x hx => .inr (by have := Ow.block HO6.out x hx; omega))⟩
    have HO7 := Sd.mk (hO7.bs [] (by simp))
    have hz7 : w.heap.size < w7.heap.size := Nat.lt_of_lt_of_le (by omega) hU7.size
    obtain ⟨k, hk1⟩ : ∃ k : Nat, crc l7 = k := ⟨(crc l7).toNat, by have := crc_lo l7; omega⟩
    have hk2 : k ≤ 4294967295 := by have := crc_hi l7; omega
    have hcr := crc_any (HO7.out.keep ((Upd.refl [] w7).drew))
    rw [hk1] at hcr
    have HC := Sd.mk hcr
    have L4 := Sd.mk (fun w' => jfixed_is w' k 4 (by decide) (by decide) (by omega) (by omega))
    have hwc : IntKind.i64.wrap (k : Int) = k := by rw [IntKind.wrap_i64]; omega
    clear hl7 hO7 hU7 hnb hcr hk1 hx6 HO6 HU6
    go_wp2
    refine wp_region_x 11 (fun w' : World => w'.cell? ⟨w.heap.size, 0, none⟩ = some (.int .i64 epoch)) rfl ?_
    have hS7 : w7.drew.cell? ⟨w.heap.size, 0, none⟩ = some (.int .i64 epoch) := hx7
    refine wpX_take 0 (v := ?_) rfl (by kernel_rfl) (fun _ _ _ h => h) (Or.inl ⟨by rfl, ?_⟩) (by assumption) ?_
    rotate_left
    · intro wq hSq; (try dsimp only at hSq); go_simp; try (with_reducible rfl)
    try simp only [Act.put, List.setIfInBounds_toArray, List.set_cons_zero, List.set_cons_succ]
    refine wpX_take 1 (v := ?_) rfl (by kernel_rfl) (fun _ _ _ h => h) (Or.inl ⟨by rfl, ?_⟩) (by assumption) ?_
    rotate_left
    · intro wq hSq; (try dsimp only at hSq); go_simp; try (with_reducible rfl)
    try simp only [Act.put, List.setIfInBounds_toArray, List.set_cons_zero, List.set_cons_succ]
    refine wpX_take 5 (v := ?_) rfl (by kernel_rfl) (fun _ _ _ h => h) (Or.inl ⟨by rfl, ?_⟩) (by assumption) ?_
    rotate_left
    · intro wq hSq; (try dsimp only at hSq); go_simp; try (with_reducible rfl)
    try simp only [Act.put, List.setIfInBounds_toArray, List.set_cons_zero, List.set_cons_succ]
    refine wpX_take 6 (v := ?_) rfl (by kernel_rfl) (fun _ _ _ h => h) (Or.inl ⟨by rfl, ?_⟩) (by assumption) ?_
    rotate_left
    · intro wq hSq; (try dsimp only at hSq); go_simp; try (with_reducible rfl)
    try simp only [Act.put, List.setIfInBounds_toArray, List.set_cons_zero, List.set_cons_succ]
    refine wpX_one 2 (by kernel_rfl) rfl (fun K hK => ?_)
    go_simp
    refine HC.out.mono ?_
    rintro e w' ⟨rfl, rfl⟩
    refine hK _ _ (fun _ => by assumption) ?_
    try simp only [Act.put, List.setIfInBounds_toArray, List.set_cons_zero, List.set_cons_succ]
    clear hK K
    refine wpX_take 3 (v := ?_) rfl (by kernel_rfl) (fun _ _ _ h => h) (Or.inl ⟨by rfl, ?_⟩) (by assumption) ?_
    rotate_left
    · intro wq hSq; (try dsimp only at hSq); go_simp; try (with_reducible rfl)
    try simp only [Act.put, List.setIfInBounds_toArray, List.set_cons_zero, List.set_cons_succ]
    refine wpX_one 4 (by kernel_rfl) rfl (fun K hK => ?_)
    go_simp
    refine (L4.out _).mono ?_
    rintro e y8 ⟨rfl, hb8, u8⟩
    have hS8 := u8.cell hS7 (by simp)
    refine hK _ _ (fun _ => by assumption) ?_
    try simp only [Act.put, List.setIfInBounds_toArray, List.set_cons_zero, List.set_cons_succ]
    clear hK K
    refine wpX_one 7 (by kernel_rfl) rfl (fun K hK => ?_)
    go_simp
    refine (L2.out _).mono ?_
    rintro e y9 ⟨rfl, hb9, u9⟩
    have hS9 := u9.cell hS8 (by simp)
    refine hK _ _ (fun _ => by assumption) ?_
    try simp only [Act.put, List.setIfInBounds_toArray, List.set_cons_zero, List.set_cons_succ]
    clear hK K
    refine wpX_one 8 (by kernel_rfl) rfl (fun K hK => ?_)
    go_simp
    refine hK _ _ (fun _ => ((Upd.refl [] y9).alloc _).cell hS9 (by simp)) ?_
    try simp only [Act.put, List.setIfInBounds_toArray, List.set_cons_zero, List.set_cons_succ]
    clear hK K
    refine wpX_one 9 (by kernel_rfl) rfl (fun K hK => ?_)
    go_simp
    refine (concat3 ((HO7.out.keep ((Upd.refl [] w7).drew)).keep (u8.trans u9)) (hb8.keep u9) hb9 (n := 128) (by rw [List.length_append, List.length_append, beB_length, beB_length, hlen7]) (by omega) (by omega)).mono ?_
    rintro e y10 ⟨A10, c10, rfl, hO10, hU10⟩
    have hS10 := hU10.cell hS9 (by simp)
    refine hK _ _ (fun _ => by assumption) ?_
    try simp only [Act.put, List.setIfInBounds_toArray, List.set_cons_zero, List.set_cons_succ]
    clear hK K
    refine wpX_take 10 (v := ?_) rfl (by kernel_rfl) (fun _ _ _ h => h) (Or.inl ⟨by rfl, ?_⟩) (by assumption) ?_
    rotate_left
    · intro wq hSq; (try dsimp only at hSq); go_simp; try (with_reducible rfl)
    try simp only [Act.put, List.setIfInBounds_toArray, List.set_cons_zero, List.set_cons_succ]
    refine wpX_done (by kernel_rfl) ?_ _
    have HU10 := Sd.mk ((HU7.out.drew.trans (u8.trans u9)).trans hU10)
    have hz10 : w.heap.size ≤ y9.heap.size := by have := (HU7.out.drew.trans (u8.trans u9)).size; exact this
    have HO10 := Sd.mk hO10
    clear hO10 hU10 hS10 hS9 hS8 hS7 u8 u9 hb8 hb9
    go_wp2
    go_ret
    exact ⟨A10, c10, _, rfl, by rw [List.length_append, List.length_append, beB_length, beB_length, hlen7], Ow.lower HO10.out hz10, HU10.out⟩
end Go.Proofs.YtpcndlipdfcnfaaDoor
