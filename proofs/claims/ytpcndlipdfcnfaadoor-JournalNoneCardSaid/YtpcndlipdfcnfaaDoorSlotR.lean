/- A cell on a blank disk: read, both, counts, blank, Get. -/
import Derived.Test.YtpcndlipdfcnfaaDoorSlot
namespace Go.Proofs.YtpcndlipdfcnfaaDoor
open Go Go.RowKit

theorem be_zeros (n : Nat) : be (List.replicate n 0) = 0 := by
  induction n with
  | zero => rfl
  | succ n ih => rw [List.replicate_succ', be_snoc, ih]; rfl
theorem tf_zeros (n i k : Nat) : tf (List.replicate n 0) i k = 0 := by
  rw [tf, List.drop_replicate, List.take_replicate, be_zeros]

section
variable {M : List Nat} {w : World} {d a m c : Nat} {D : DiskS} {base life : Int}
def aggB (d : Option TypeDesc) : Bool := match d with
  | some (.struct _) => true
  | some (.array _ _) => true
  | _ => false
theorem agg_of {P : Program} {t : TypeId} (h : aggB (P.underlying t) = true) : ∃ d, P.underlying t = some d ∧ (match d with | .struct _ | .array _ _ => true | _ => false) = true := by
  unfold aggB at h
  split at h
  · rename_i e; exact ⟨_, e, rfl⟩
  · rename_i e; exact ⟨_, e, rfl⟩
  · cases h
/-- The result that lies in a cell of its own: the whole block is told. -/
theorem ret_row {P : Program} {fn : Func} {R : Ending → World → Prop} {a : Act} {w : World} {p : Tmp} {ty : TypeId} (h : fn.results = #[.cell p ty]) (g : Nat) (cs : List Value) (t : TypeId) (ha : aggB (P.underlying ty) = true) (hi : (P.info? ty).map (·.size) = some cs.length)
    (hp : a.tmps.getD p undef = .pointer (some ⟨g, 0, none⟩)) (hd : a.defers = []) (hg : w.heap[g]? = some (.cells cs.toArray t (0, 0))) (hR : R (.returned (.agg cs.toArray)) w) : bodyPost P fn R .ret a w := by
  obtain ⟨d, hu, hm⟩ := agg_of ha
  refine bodyPost_ret ?_ hd hR
  cases d with
  | struct fs => exact results_cell_row h _ _ g t cs.toArray (0, 0) _ hp hg hu rfl (by simpa using hi)
  | array n e => exact results_cell_row h _ _ g t cs.toArray (0, 0) _ hp hg hu rfl (by simpa using hi)
  | _ => cases hm
set_option maxRecDepth 100000 in
set_option maxHeartbeats 400000 in
theorem slotRead_zeros {v : Value} (hv : Bs M w v (List.replicate 128 0)) :
    Calls Tryd.prog 57 #[v] w fun e w' => e = .returned (.agg #[.int .i64 0, .string ⟨#[]⟩]) ∧ Upd [] w w' := by
  have HT := Sd.mk (fun (o : Obj) => takeFixed_ok (hv.keep ((Upd.refl [] w).alloc o)) 0 8 (by decide) (by decide) (by simp))
  have h0 := tf_zeros 128 0 8
  obtain ⟨b, off, c, rfl, hn, hc, hM, hb⟩ := hv.some (by simp)
  have hcell : w.cell? ⟨b, off + 8, none⟩ = some (.int .u8 0) := by
    rcases hv.cases with ⟨h, _⟩ | ⟨b', off', c', h, _, _, _, _, h6⟩
    · cases h
    · simp only [Value.slice.injEq, Option.some.injEq, Addr.mk.injEq] at h
      obtain ⟨⟨rfl, rfl, _⟩, _, rfl⟩ := h
      exact h6 8 0 (by simp)
  rw [List.length_replicate] at hn HT ⊢
  rw [h0] at HT
  have HV := Sd.mk hv
  clear hv h0 hM
  rw [maxLen_is] at hc
  rw [show tfN 0 = 0 from rfl, show tfE 0 = 0 from rfl] at HT
  have hs9 : ∀ o : Obj, (convert 26 9 (.slice (some ⟨b, off + 9, none⟩) 0 (c - 9))).run Tryd.prog (w.alloc o) = .ok (.string ⟨#[]⟩) (w.alloc o) := fun o =>
    Bs.toStr (M := []) (l := []) (Bs.empty (by simp) (by simp; omega) (by rw [maxLen_is]; omega))
  go_enter Tryd.func57, Tryd.ntmps57
  go_wp2_with (go_at_call 70; refine (HT.out _).mono ?_; rintro e w' ⟨rfl, rfl⟩)
  refine ret_row rfl w.heap.size [.int .i64 0, .string ⟨#[]⟩] _ (by kernel_rfl) (by kernel_rfl) rfl rfl ((heap_alloc_lt _ (by simp)).trans (heap_alloc_new w _)) ⟨rfl, ((Upd.refl [] w).alloc _).alloc _⟩

structure DiskS.Blank (D : DiskS) : Prop where
  down : D.down = false
  zero : ∀ i, i < D.n → D.get i = List.replicate 128 0
theorem DiskS.Blank.read {D : DiskS} (h : D.Blank) (i : Int) (h0 : 0 ≤ i) (h1 : i < D.n) : D.readB i = List.replicate 128 0 ∧ D.powered i = 0 := by
  have hp : D.powered i = 0 := by
    unfold DiskS.powered
    rw [if_neg (by simp [h.down]), if_neg (by omega)]
  refine ⟨?_, hp⟩
  rw [DiskS.readB, if_pos hp]
  exact h.zero _ (by omega)
theorem readZ (h : DiskAt M w d a m D) (hb : D.Blank) (i : Int) (h0 : 0 ≤ i) (h1 : i < D.n) : Calls Tryd.prog 53 #[ptr d, .int .i64 i] w fun e w' => ∃ v, e = .returned (.tuple #[v, .int .i64 0]) ∧ Bs M w' v (List.replicate 128 0) ∧ Upd [] w w' := by
  have := h.ok.n2
  have := read_is h i (by omega) (by omega)
  rw [(hb.read i h0 h1).1, (hb.read i h0 h1).2] at this
  exact this

set_option maxRecDepth 100000 in
set_option maxHeartbeats 1000000 in
theorem both_blank (h : DiskAt M w d a m D) (hc : CellAt w c d base life) (hb : D.Blank) (h0 : 0 ≤ base) (h1 : base < (D.n : Int) - 1) :
    Calls Tryd.prog 42 #[ptr c] w fun e w' => e = .returned (.agg #[.int .i64 0, .string ⟨#[]⟩, .int .i64 0, .string ⟨#[]⟩]) ∧ Upd [] w w' := by
  have HH := Sd.mk h
  have HC := Sd.mk hc
  have HB := Sd.mk hb
  have hn := h.ok.n2
  have hcl := lt_of_block hc
  clear h hc hb
  go_enter Tryd.func42, Tryd.ntmps42
  go_wp2
  go_loopg [7] 2 (fun g k wr => ∃ i : Nat, i ≤ 2 ∧ k = .int .i64 i ∧ Sd (g = 2 - i) ∧ Sd (Upd [] w wr) ∧ Sd (wr.heap[w.heap.size]? = some (.cells #[.int .i64 0, .string ⟨#[]⟩, .int .i64 0, .string ⟨#[]⟩] 90 (0, 0))) ∧ Sd (wr.heap[w.heap.size + 1]? = some (.cells #[.int .i64 0, .string ⟨#[]⟩, .int .i64 0, .string ⟨#[]⟩] 90 (0, 0))))
  case atStart => exact ⟨0, by omega, rfl, ⟨rfl⟩, ⟨((Upd.refl [] w).alloc _).alloc _⟩, ⟨(heap_alloc_lt _ (by simp)).trans (heap_alloc_new w _)⟩, ⟨heap_alloc2_new w _ _⟩⟩
  case round =>
    obtain ⟨i, hi, rfl, hg, hu, hb1, hb2⟩ := hrel
    by_cases hlt : i < 2
    · have hx := (HC.out.upd hu.out (by simp)).cells
      have hx0 := hx.1
      have hx1 := hx.2.1
      have hwr : IntKind.i64.wrap (base + (i : Int)) = base + i := by rw [IntKind.wrap_i64]; omega
      have HR := Sd.mk (readZ (HH.out.keep (hu.out.drew)) HB.out (base + i) (by omega) (by omega))
      clear hx
      go_wp2
      refine wp_region_x 16 (fun w' : World => w'.cell? ⟨c, 0, none⟩ = some (ptr d) ∧ w'.cell? ⟨c, 1, none⟩ = some (.int .i64 base)) rfl ?_
      have hS0 : wr.drew.cell? ⟨c, 0, none⟩ = some (ptr d) ∧ wr.drew.cell? ⟨c, 1, none⟩ = some (.int .i64 base) := ⟨hx0, hx1⟩
      refine wpX_take 0 (v := ?_) rfl (by kernel_rfl) (fun _ _ _ h => h) (Or.inl ⟨by rfl, ?_⟩) (by assumption) ?_
      rotate_left
      · intro wq hSq; (try dsimp only at hSq); go_simp; try (with_reducible rfl)
      try simp only [Act.put, List.setIfInBounds_toArray, List.set_cons_zero, List.set_cons_succ]
      refine wpX_take 1 (v := ?_) rfl (by kernel_rfl) (fun _ _ _ h => h) (Or.inl ⟨by rfl, ?_⟩) (by assumption) ?_
      rotate_left
      · intro wq hSq; (try dsimp only at hSq); go_simp; try (with_reducible rfl)
      try simp only [Act.put, List.setIfInBounds_toArray, List.set_cons_zero, List.set_cons_succ]
      refine wpX_take 2 (v := ?_) rfl (by kernel_rfl) (fun _ _ _ h => h) (Or.inl ⟨by rfl, ?_⟩) (by assumption) ?_
      rotate_left
      · intro wq hSq; (try dsimp only at hSq); go_simp; try (with_reducible rfl)
      try simp only [Act.put, List.setIfInBounds_toArray, List.set_cons_zero, List.set_cons_succ]
      refine wpX_take 3 (v := ?_) rfl (by kernel_rfl) (fun _ _ _ h => h) (Or.inl ⟨by rfl, ?_⟩) (by assumption) ?_
      rotate_left
      · intro wq hSq; (try dsimp only at hSq); go_simp; try (with_reducible rfl)
      try simp only [Act.put, List.setIfInBounds_toArray, List.set_cons_zero, List.set_cons_succ]
      refine wpX_take 4 (v := ?_) rfl (by kernel_rfl) (fun _ _ _ h => h) (Or.inl ⟨by rfl, ?_⟩) (by assumption) ?_
      rotate_left
      · intro wq hSq; (try dsimp only at hSq); go_simp; try (with_reducible rfl)
      try simp only [Act.put, List.setIfInBounds_toArray, List.set_cons_zero, List.set_cons_succ]
      refine wpX_take 5 (v := ?_) rfl (by kernel_rfl) (fun _ _ _ h => h) (Or.inl ⟨by rfl, ?_⟩) (by assumption) ?_
      rotate_left
      · intro wq hSq; (try dsimp only at hSq); go_simp; try (with_reducible rfl)
      try simp only [Act.put, List.setIfInBounds_toArray, List.set_cons_zero, List.set_cons_succ]
      refine wpX_take 6 (v := ?_) rfl (by kernel_rfl) (fun _ _ _ h => h) (Or.inl ⟨by rfl, ?_⟩) (by assumption) ?_
      rotate_left
      · intro wq hSq; (try dsimp only at hSq); go_simp; try (with_reducible rfl)
      try simp only [Act.put, List.setIfInBounds_toArray, List.set_cons_zero, List.set_cons_succ]
      refine wpX_take 7 (v := ?_) rfl (by kernel_rfl) (fun _ _ _ h => h) (Or.inl ⟨by rfl, ?_⟩) (by assumption) ?_
      rotate_left
      · intro wq hSq; (try dsimp only at hSq); go_simp; try (with_reducible rfl)
      try simp only [Act.put, List.setIfInBounds_toArray, List.set_cons_zero, List.set_cons_succ]
      refine wpX_take 8 (v := ?_) rfl (by kernel_rfl) (fun _ _ _ h => h) (Or.inl ⟨by rfl, ?_⟩) (by assumption) ?_
      rotate_left
      · intro wq hSq; (try dsimp only at hSq); go_simp; try (with_reducible rfl)
      try simp only [Act.put, List.setIfInBounds_toArray, List.set_cons_zero, List.set_cons_succ]
      refine wpX_take 9 (v := ?_) rfl (by kernel_rfl) (fun _ _ _ h => h) (Or.inl ⟨by rfl, ?_⟩) (by assumption) ?_
      rotate_left
      · intro wq hSq; (try dsimp only at hSq); go_simp; try (with_reducible rfl)
      try simp only [Act.put, List.setIfInBounds_toArray, List.set_cons_zero, List.set_cons_succ]
      refine wpX_one 10 (by kernel_rfl) rfl (fun K hK => ?_)
      go_simp
      refine HR.out.mono ?_
      rintro e w1 ⟨v, rfl, hB, hU⟩
      have hS1 : w1.cell? ⟨c, 0, none⟩ = some (ptr d) ∧ w1.cell? ⟨c, 1, none⟩ = some (.int .i64 base) := ⟨hU.cell hx0 (by simp), hU.cell hx1 (by simp)⟩
      refine hK _ _ (fun _ => by assumption) ?_
      try simp only [Act.put, List.setIfInBounds_toArray, List.set_cons_zero, List.set_cons_succ]
      clear hK K
      refine wpX_take 11 (v := ?_) rfl (by kernel_rfl) (fun _ _ _ h => h) (Or.inl ⟨by rfl, ?_⟩) (by assumption) ?_
      rotate_left
      · intro wq hSq; (try dsimp only at hSq); go_simp; try (with_reducible rfl)
      try simp only [Act.put, List.setIfInBounds_toArray, List.set_cons_zero, List.set_cons_succ]
      refine wpX_take 12 (v := ?_) rfl (by kernel_rfl) (fun _ _ _ h => h) (Or.inl ⟨by rfl, ?_⟩) (by assumption) ?_
      rotate_left
      · intro wq hSq; (try dsimp only at hSq); go_simp; try (with_reducible rfl)
      try simp only [Act.put, List.setIfInBounds_toArray, List.set_cons_zero, List.set_cons_succ]
      refine wpX_take 13 (v := ?_) rfl (by kernel_rfl) (fun _ _ _ h => h) (Or.inl ⟨by rfl, ?_⟩) (by assumption) ?_
      rotate_left
      · intro wq hSq; (try dsimp only at hSq); go_simp; try (with_reducible rfl)
      try simp only [Act.put, List.setIfInBounds_toArray, List.set_cons_zero, List.set_cons_succ]
      refine wpX_take 14 (v := ?_) rfl (by kernel_rfl) (fun _ _ _ h => h) (Or.inl ⟨by rfl, ?_⟩) (by assumption) ?_
      rotate_left
      · intro wq hSq; (try dsimp only at hSq); go_simp; try (with_reducible rfl)
      try simp only [Act.put, List.setIfInBounds_toArray, List.set_cons_zero, List.set_cons_succ]
      refine wpX_take 15 (v := ?_) rfl (by kernel_rfl) (fun _ _ _ h => h) (Or.inl ⟨by rfl, ?_⟩) (by assumption) ?_
      rotate_left
      · intro wq hSq; (try dsimp only at hSq); go_simp; try (with_reducible rfl)
      try simp only [Act.put, List.setIfInBounds_toArray, List.set_cons_zero, List.set_cons_succ]
      refine wpX_done (by kernel_rfl) ?_ _
      obtain ⟨A, cp, rfl⟩ := hB.isSlice
      have HZ := Sd.mk (slotRead_zeros hB)
      have HU := Sd.mk (hu.out.drew.trans hU)
      have hB1 := hU.heap hb1.out (by simp)
      have hB2 := Sd.mk (hU.heap hb2.out (by simp))
      clear hB hU hb1 hb2 HR
      go_wp2_with fail
      refine HZ.out.mono ?_
      rintro e w2 ⟨rfl, hU⟩
      have HU2 := Sd.mk (HU.out.trans hU)
      have HB1 := Sd.mk (hU.heap hB1 (by simp))
      have hb2 := hU.heap hB2.out (by simp)
      have HB2 := Sd.mk hb2
      have hc0 : w2.cell? ⟨w.heap.size + 1, 0, none⟩ = some (.int .i64 0) := cell_of (k := 0) hb2 rfl
      have hc1 : w2.cell? ⟨w.heap.size + 1, 1, none⟩ = some (.string ⟨#[]⟩) := cell_of (k := 1) hb2 rfl
      have hc2 : w2.cell? ⟨w.heap.size + 1, 2, none⟩ = some (.int .i64 0) := cell_of (k := 2) hb2 rfl
      have hc3 : w2.cell? ⟨w.heap.size + 1, 3, none⟩ = some (.string ⟨#[]⟩) := cell_of (k := 3) hb2 rfl
      have hf := free_of hb2
      have hg1 := hg.out
      clear hU hB1 hb2 hg
      obtain rfl | rfl : i = 0 ∨ i = 1 := by omega
      · go_wp2
        go_roundg 1
        case measure => omega
        case rel =>
          refine ⟨1, by omega, rfl, ⟨rfl⟩, ⟨(HU2.out.setCell _ (by simp)).setCell _ (by simp)⟩, ⟨?_⟩, ⟨?_⟩⟩
          · rw [heap_setCell_ne _ (by simp), heap_setCell_ne _ (by simp)]; exact HB1.out
          · rw [heap_setCell_same _ (heap_setCell_same _ HB2.out)]; rfl
      · go_wp2
        go_roundg 0
        case measure => omega
        case rel =>
          refine ⟨2, by omega, rfl, ⟨rfl⟩, ⟨(HU2.out.setCell _ (by simp)).setCell _ (by simp)⟩, ⟨?_⟩, ⟨?_⟩⟩
          · rw [heap_setCell_ne _ (by simp), heap_setCell_ne _ (by simp)]; exact HB1.out
          · rw [heap_setCell_same _ (heap_setCell_same _ HB2.out)]; rfl
    · obtain rfl : i = 2 := by omega
      have HB1 := hb1
      have hb2 := hb2.out
      have hc0 : wr.cell? ⟨w.heap.size + 1, 0, none⟩ = some (.int .i64 0) := cell_of (k := 0) hb2 rfl
      have hc1 : wr.cell? ⟨w.heap.size + 1, 1, none⟩ = some (.string ⟨#[]⟩) := cell_of (k := 1) hb2 rfl
      have hc2 : wr.cell? ⟨w.heap.size + 1, 2, none⟩ = some (.int .i64 0) := cell_of (k := 2) hb2 rfl
      have hc3 : wr.cell? ⟨w.heap.size + 1, 3, none⟩ = some (.string ⟨#[]⟩) := cell_of (k := 3) hb2 rfl
      have hf := free_of HB1.out
      have hd0 : (wr.cell? ⟨w.heap.size, 0, none⟩) = some (.int .i64 0) := cell_of (k := 0) HB1.out rfl
      have hd1 : (wr.cell? ⟨w.heap.size, 1, none⟩) = some (.string ⟨#[]⟩) := cell_of (k := 1) HB1.out rfl
      have hd2 : (wr.cell? ⟨w.heap.size, 2, none⟩) = some (.int .i64 0) := cell_of (k := 2) HB1.out rfl
      have hd3 : (wr.cell? ⟨w.heap.size, 3, none⟩) = some (.string ⟨#[]⟩) := cell_of (k := 3) HB1.out rfl
      clear hb1 hb2
      go_wp2
      refine ret_row rfl w.heap.size [.int .i64 0, .string ⟨#[]⟩, .int .i64 0, .string ⟨#[]⟩] 90 (by kernel_rfl) (by kernel_rfl) rfl rfl ?_ ⟨rfl, (((hu.out.setCell _ (by simp)).setCell _ (by simp)).setCell _ (by simp)).setCell _ (by simp)⟩
      rw [heap_setCell_same _ (heap_setCell_same _ (heap_setCell_same _ (heap_setCell_same _ HB1.out)))]
      rfl

theorem eqImage (w : World) : (binOp .eql 89 (.agg #[.int .i64 0, .string ⟨#[]⟩]) (.agg #[.int .i64 0, .string ⟨#[]⟩])).run Tryd.prog w = .ok (.bool true) w := by kernel_rfl
set_option maxRecDepth 100000 in
set_option maxHeartbeats 400000 in
theorem counts_none (w : World) : Calls Tryd.prog 43 #[.agg #[.int .i64 0, .string ⟨#[]⟩, .int .i64 0, .string ⟨#[]⟩]] w fun e w' => e = .returned (.int .i64 (-1)) ∧ Upd [] w w' := by
  have he := eqImage
  go_enter Tryd.func43, Tryd.ntmps43
  go_wp2
  go_ret
  exact ⟨rfl, ((Upd.refl [] w).alloc _).alloc _⟩

set_option maxRecDepth 100000 in
set_option maxHeartbeats 1000000 in
theorem blank_yes (h : DiskAt M w d a m D) (hc : CellAt w c d base life) (hb : D.Blank) (h0 : 0 ≤ base) (h1 : base < (D.n : Int) - 1) :
    Calls Tryd.prog 44 #[ptr c] w fun e w' => e = .returned (.bool true) ∧ Upd [] w w' := by
  have HH := Sd.mk h
  have HC := Sd.mk hc
  have HB := Sd.mk hb
  have hn := h.ok.n2
  have hcl := lt_of_block hc
  clear h hc hb
  go_enter Tryd.func44, Tryd.ntmps44
  go_wp2
  go_loopg [6] 2 (fun g k wr => ∃ i : Nat, i ≤ 2 ∧ k = .int .i64 i ∧ Sd (g = 2 - i) ∧ Sd (Upd [] w wr))
  case atStart => exact ⟨0, by omega, rfl, ⟨rfl⟩, ⟨Upd.refl [] w⟩⟩
  case round =>
    obtain ⟨i, hi, rfl, hg, hu⟩ := hrel
    by_cases hlt : i < 2
    · have hx := (HC.out.upd hu.out (by simp)).cells
      have hx0 := hx.1
      have hx1 := hx.2.1
      have hwr : IntKind.i64.wrap (base + (i : Int)) = base + i := by rw [IntKind.wrap_i64]; omega
      have HR := Sd.mk (readZ (HH.out.keep (hu.out.drew)) HB.out (base + i) (by omega) (by omega))
      clear hx
      go_wp2
      refine wp_region_x 16 (fun w' : World => w'.cell? ⟨c, 0, none⟩ = some (ptr d) ∧ w'.cell? ⟨c, 1, none⟩ = some (.int .i64 base)) rfl ?_
      have hS0 : wr.drew.cell? ⟨c, 0, none⟩ = some (ptr d) ∧ wr.drew.cell? ⟨c, 1, none⟩ = some (.int .i64 base) := ⟨hx0, hx1⟩
      refine wpX_take 0 (v := ?_) rfl (by kernel_rfl) (fun _ _ _ h => h) (Or.inl ⟨by rfl, ?_⟩) (by assumption) ?_
      rotate_left
      · intro wq hSq; (try dsimp only at hSq); go_simp; try (with_reducible rfl)
      try simp only [Act.put, List.setIfInBounds_toArray, List.set_cons_zero, List.set_cons_succ]
      refine wpX_take 1 (v := ?_) rfl (by kernel_rfl) (fun _ _ _ h => h) (Or.inl ⟨by rfl, ?_⟩) (by assumption) ?_
      rotate_left
      · intro wq hSq; (try dsimp only at hSq); go_simp; try (with_reducible rfl)
      try simp only [Act.put, List.setIfInBounds_toArray, List.set_cons_zero, List.set_cons_succ]
      refine wpX_take 2 (v := ?_) rfl (by kernel_rfl) (fun _ _ _ h => h) (Or.inl ⟨by rfl, ?_⟩) (by assumption) ?_
      rotate_left
      · intro wq hSq; (try dsimp only at hSq); go_simp; try (with_reducible rfl)
      try simp only [Act.put, List.setIfInBounds_toArray, List.set_cons_zero, List.set_cons_succ]
      refine wpX_take 3 (v := ?_) rfl (by kernel_rfl) (fun _ _ _ h => h) (Or.inl ⟨by rfl, ?_⟩) (by assumption) ?_
      rotate_left
      · intro wq hSq; (try dsimp only at hSq); go_simp; try (with_reducible rfl)
      try simp only [Act.put, List.setIfInBounds_toArray, List.set_cons_zero, List.set_cons_succ]
      refine wpX_take 4 (v := ?_) rfl (by kernel_rfl) (fun _ _ _ h => h) (Or.inl ⟨by rfl, ?_⟩) (by assumption) ?_
      rotate_left
      · intro wq hSq; (try dsimp only at hSq); go_simp; try (with_reducible rfl)
      try simp only [Act.put, List.setIfInBounds_toArray, List.set_cons_zero, List.set_cons_succ]
      refine wpX_take 5 (v := ?_) rfl (by kernel_rfl) (fun _ _ _ h => h) (Or.inl ⟨by rfl, ?_⟩) (by assumption) ?_
      rotate_left
      · intro wq hSq; (try dsimp only at hSq); go_simp; try (with_reducible rfl)
      try simp only [Act.put, List.setIfInBounds_toArray, List.set_cons_zero, List.set_cons_succ]
      refine wpX_take 6 (v := ?_) rfl (by kernel_rfl) (fun _ _ _ h => h) (Or.inl ⟨by rfl, ?_⟩) (by assumption) ?_
      rotate_left
      · intro wq hSq; (try dsimp only at hSq); go_simp; try (with_reducible rfl)
      try simp only [Act.put, List.setIfInBounds_toArray, List.set_cons_zero, List.set_cons_succ]
      refine wpX_take 7 (v := ?_) rfl (by kernel_rfl) (fun _ _ _ h => h) (Or.inl ⟨by rfl, ?_⟩) (by assumption) ?_
      rotate_left
      · intro wq hSq; (try dsimp only at hSq); go_simp; try (with_reducible rfl)
      try simp only [Act.put, List.setIfInBounds_toArray, List.set_cons_zero, List.set_cons_succ]
      refine wpX_take 8 (v := ?_) rfl (by kernel_rfl) (fun _ _ _ h => h) (Or.inl ⟨by rfl, ?_⟩) (by assumption) ?_
      rotate_left
      · intro wq hSq; (try dsimp only at hSq); go_simp; try (with_reducible rfl)
      try simp only [Act.put, List.setIfInBounds_toArray, List.set_cons_zero, List.set_cons_succ]
      refine wpX_take 9 (v := ?_) rfl (by kernel_rfl) (fun _ _ _ h => h) (Or.inl ⟨by rfl, ?_⟩) (by assumption) ?_
      rotate_left
      · intro wq hSq; (try dsimp only at hSq); go_simp; try (with_reducible rfl)
      try simp only [Act.put, List.setIfInBounds_toArray, List.set_cons_zero, List.set_cons_succ]
      refine wpX_one 10 (by kernel_rfl) rfl (fun K hK => ?_)
      go_simp
      refine HR.out.mono ?_
      rintro e w1 ⟨v, rfl, hB, hU⟩
      have hS1 : w1.cell? ⟨c, 0, none⟩ = some (ptr d) ∧ w1.cell? ⟨c, 1, none⟩ = some (.int .i64 base) := ⟨hU.cell hx0 (by simp), hU.cell hx1 (by simp)⟩
      refine hK _ _ (fun _ => by assumption) ?_
      try simp only [Act.put, List.setIfInBounds_toArray, List.set_cons_zero, List.set_cons_succ]
      clear hK K
      refine wpX_take 11 (v := ?_) rfl (by kernel_rfl) (fun _ _ _ h => h) (Or.inl ⟨by rfl, ?_⟩) (by assumption) ?_
      rotate_left
      · intro wq hSq; (try dsimp only at hSq); go_simp; try (with_reducible rfl)
      try simp only [Act.put, List.setIfInBounds_toArray, List.set_cons_zero, List.set_cons_succ]
      refine wpX_take 12 (v := ?_) rfl (by kernel_rfl) (fun _ _ _ h => h) (Or.inl ⟨by rfl, ?_⟩) (by assumption) ?_
      rotate_left
      · intro wq hSq; (try dsimp only at hSq); go_simp; try (with_reducible rfl)
      try simp only [Act.put, List.setIfInBounds_toArray, List.set_cons_zero, List.set_cons_succ]
      refine wpX_take 13 (v := ?_) rfl (by kernel_rfl) (fun _ _ _ h => h) (Or.inl ⟨by rfl, ?_⟩) (by assumption) ?_
      rotate_left
      · intro wq hSq; (try dsimp only at hSq); go_simp; try (with_reducible rfl)
      try simp only [Act.put, List.setIfInBounds_toArray, List.set_cons_zero, List.set_cons_succ]
      refine wpX_take 14 (v := ?_) rfl (by kernel_rfl) (fun _ _ _ h => h) (Or.inl ⟨by rfl, ?_⟩) (by assumption) ?_
      rotate_left
      · intro wq hSq; (try dsimp only at hSq); go_simp; try (with_reducible rfl)
      try simp only [Act.put, List.setIfInBounds_toArray, List.set_cons_zero, List.set_cons_succ]
      refine wpX_take 15 (v := ?_) rfl (by kernel_rfl) (fun _ _ _ h => h) (Or.inl ⟨by rfl, ?_⟩) (by assumption) ?_
      rotate_left
      · intro wq hSq; (try dsimp only at hSq); go_simp; try (with_reducible rfl)
      try simp only [Act.put, List.setIfInBounds_toArray, List.set_cons_zero, List.set_cons_succ]
      refine wpX_done (by kernel_rfl) ?_ _
      have HZ := Sd.mk (containsFunc_zeros hB)
      have HU := Sd.mk (hu.out.drew.trans hU)
      clear hB hU HR
      go_wp2_with (go_at_call 58; refine HZ.out.mono ?_; rintro e w' ⟨rfl, rfl⟩)
      go_roundg (2 - (i + 1))
      case measure => rw [hg.out]; omega
      case rel => exact ⟨i + 1, by omega, by go_num, ⟨rfl⟩, HU⟩
    · obtain rfl : i = 2 := by omega
      go_wp2
      go_ret
      exact ⟨rfl, hu.out⟩

set_option maxRecDepth 100000 in
set_option maxHeartbeats 1000000 in
theorem get_blank (h : DiskAt M w d a m D) (hc : CellAt w c d base D.life) (hb : D.Blank) (h0 : 0 ≤ base) (h1 : base < (D.n : Int) - 1) :
    Calls Tryd.prog 23 #[ptr c] w fun e w' => e = .returned (.tuple #[.slice none 0 0, .int .i64 9]) ∧ Upd [] w w' := by
  have ho := cellOff_is h hc
  rw [cellOff, if_neg (by simp), if_neg (by simp [hb.down])] at ho
  have HO := Sd.mk ho
  have HH := Sd.mk (fun w' (u : Upd [] w w') => both_blank (h.keep u) (hc.upd u (by simp)) hb h0 h1)
  have HK := Sd.mk (fun w' (u : Upd [] w w') => blank_yes (h.keep u) (hc.upd u (by simp)) hb h0 h1)
  clear h hc hb ho
  go_enter Tryd.func23, Tryd.ntmps23
  go_wp2_with fail
  refine HO.out.mono ?_
  rintro e w1 ⟨rfl, hU⟩
  have H1 := Sd.mk hU
  clear hU
  go_wp2_with fail
  refine (HH.out _ H1.out).mono ?_
  rintro e w2 ⟨rfl, hU⟩
  have H2 := Sd.mk (H1.out.trans hU)
  clear hU H1
  go_wp2_with fail
  refine (counts_none _).mono ?_
  rintro e w3 ⟨rfl, hU⟩
  have H3 := Sd.mk ((H2.out.alloc _).trans hU)
  clear hU H2
  go_wp2_with fail
  refine (HK.out _ H3.out).mono ?_
  rintro e w4 ⟨rfl, hU⟩
  have H4 := Sd.mk (H3.out.trans hU)
  clear hU H3
  go_wp2
  go_ret2
  exact ⟨rfl, H4.out⟩
end
end Go.Proofs.YtpcndlipdfcnfaaDoor
