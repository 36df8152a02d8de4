/- The disk: Trip, New, Crash. -/
import Derived.Test.YtpcndlipdfcnfaaDoorDiskW
import Derived.Deep.RegionLaw
namespace Go.Proofs.YtpcndlipdfcnfaaDoor
open Go Go.RowKit

namespace DiskS
def tripE (D : DiskS) (n : Int) : Int := if D.down then 7 else if n < 0 then 2 else 0
def setT (D : DiskS) (n : Int) : DiskS := if D.tripE n = 0 then { D with trip := n } else D
end DiskS
section
variable {M : List Nat} {w : World} {d a m : Nat} {D : DiskS}
set_option maxRecDepth 100000 in
set_option maxHeartbeats 1000000 in
theorem trip_is (h : DiskAt M w d a m D) (n : Int) (hn : n ≤ 9223372036854775807) :
    Calls Tryd.prog 18 #[ptr d, .int .i64 n] w fun e w' => e = .returned (.int .i64 (D.tripE n)) ∧ DiskAt M w' d a m (D.setT n) ∧ Upd [d] w w' := by
  obtain ⟨cap, blk, _, _⟩ := h.blk
  have hc2 := (cells5 blk).2.2.1
  have hc3 := (cells5 blk).2.2.2.1
  have hf := (cells5 blk).2.2.2.2.2
  have HH := Sd.mk h
  clear h blk
  by_cases hdn : D.down = true
  · rw [hdn] at hc3
    have HD := Sd.mk hdn
    clear hdn
    go_enter Tryd.func18, Tryd.ntmps18
    go_wp2
    go_ret
    exact ⟨by simp [DiskS.tripE, HD.out], by simpa [DiskS.setT, DiskS.tripE, HD.out] using HH.out, Upd.refl _ _⟩
  · rw [Bool.not_eq_true] at hdn
    rw [hdn] at hc3
    have HD := Sd.mk hdn
    clear hdn
    by_cases h1 : n < 0
    · go_enter Tryd.func18, Tryd.ntmps18
      go_wp2
      go_ret
      exact ⟨by simp [DiskS.tripE, HD.out, h1], by simpa [DiskS.setT, DiskS.tripE, HD.out, h1] using HH.out, Upd.refl _ _⟩
    · have h1' : 0 ≤ n := by omega
      go_enter Tryd.func18, Tryd.ntmps18
      go_wp2
      go_ret
      have u : Upd [d] w (w.setCell ⟨d, 2, none⟩ (.int .i64 n)) := (Upd.refl _ _).setCell _ (by simp)
      refine ⟨by simp [DiskS.tripE, HD.out, h1], ?_, u⟩
      have e : D.setT n = { D with trip := n, down := D.down } := by simp [DiskS.setT, DiskS.tripE, HD.out, h1]
      rw [e]
      refine HH.out.setFlags u n D.down h1' hn ?_
      intro c0 c1 c2 c3 c4 T hb
      obtain ⟨cap, blk, _⟩ := HH.out.blk
      rw [blk] at hb
      cases hb
      rw [heap_setCell_same _ blk]
      rfl
end

/-! ### New -/
def newS (n : Nat) : DiskS := ⟨List.replicate n (List.replicate 128 0), fun _ => none, 0, false, 0⟩
theorem infoBs : (Tryd.prog.info? 26).map (fun i => (i.zero, i.size, i.bytes)) = some (some (.slice none 0 0), 1, 24) := by kernel_rfl
theorem undBss : Tryd.prog.underlying 35 = some (.slice 26) := by kernel_rfl

def zero128 : Array Value := (List.replicate 128 (u8v 0)).toArray
theorem make128 (w : World) : (Instr.makeSlice 26 (.int .i64 128) (.int .i64 128)).run Tryd.prog w = .ok (.slice (some ⟨w.heap.size, 0, none⟩) 128 128) (w.alloc (.cells zero128 5)) := by
  obtain ⟨i, hi, hz0, hz1, hz2⟩ := info_parts infoU8
  have h := run_make (P := Tryd.prog) w _ _ i _ undBs hi hz0 .i64 .i64 128 128 (by decide) (by decide) (by rw [hz2]; decide) (by decide)
  rw [h, hz1]
  have e : madeCells (Value.int IntKind.u8 0).cells (Int.toNat 128 * 1) = zero128 := by
    apply Array.ext'
    show (madeCells #[Value.int .u8 0] 128).toList = _
    rw [toList_madeCells_one]
    rfl
  rw [e]
  rfl
theorem zero128_bs (M : List Nat) {w : World} {g : Nat} (h : w.heap[g]? = some (.cells zero128 5 (0, 0))) (hg : g ∉ M) : Bs M w (.slice (some ⟨g, 0, none⟩) 128 128) (List.replicate 128 0) := by
  have := Bs.mk (M := M) (w := w) (l := List.replicate 128 0) (b := g) (off := 0) (c := 128) (by simp) (by rw [maxLen_is]; omega) hg (lt_of_block h) (fun j x hj => by
    rw [Nat.zero_add]
    refine cell_of h ?_
    simp only [List.getElem?_replicate] at hj
    split at hj
    · cases hj
      simp only [zero128, List.getElem?_toArray, List.getElem?_replicate]
      rw [if_pos (by assumption)]
      rfl
    · cases hj)
  simpa using this

/-- What holds while the sectors are made: the disk in block w.heap.size + 1, its map in block w.heap.size. -/
structure NewRel (M : List Nat) (w wr : World) (v : Value) (vs : List Value) : Prop where
  own : Ow 26 (w.heap.size + 2) wr v vs
  elems : ∀ x ∈ vs, Bs ((w.heap.size + 1) :: w.heap.size :: (v.ownBlock.toList ++ M)) wr x (List.replicate 128 0)
  blk : wr.heap[w.heap.size + 1]? = some (.cells #[v, .map (some w.heap.size), .int .i64 0, .bool false, .int .i64 0] 77 (0, 0))
  map : MapAt intKey wr w.heap.size []
  upd : Upd [] w wr

theorem NewRel.step {M : List Nat} {w wr w2 : World} {v : Value} {vs : List Value} (h : NewRel M w wr v vs) (hM : ∀ x ∈ M, x < w.heap.size) {g cap n : Nat}
    (g1 : Ow 26 (w.heap.size + 2) w2 (.slice (some ⟨g, 0, none⟩) n cap) (vs ++ [.slice (some ⟨wr.heap.size, 0, none⟩) 128 128]))
    (g2 : Upd v.ownBlock.toList ((wr.alloc (.cells zero128 5)).alloc (.cells #[.slice (some ⟨wr.heap.size, 0, none⟩) 128 128] 26)).drew w2)
    (g3 : v.ownBlock = some g ∨ ((wr.alloc (.cells zero128 5)).alloc (.cells #[.slice (some ⟨wr.heap.size, 0, none⟩) 128 128] 26)).drew.heap.size ≤ g) :
    NewRel M w (w2.setCell ⟨w.heap.size + 1, 0, none⟩ (.slice (some ⟨g, 0, none⟩) n cap)) (.slice (some ⟨g, 0, none⟩) n cap) (vs ++ [.slice (some ⟨wr.heap.size, 0, none⟩) 128 128]) := by
  obtain ⟨own, elems, blk, map, upd⟩ := h
  have hd := lt_of_block blk
  have hm := map.lt
  have u3 : Upd [] wr ((wr.alloc (.cells zero128 5)).alloc (.cells #[.slice (some ⟨wr.heap.size, 0, none⟩) 128 128] 26)).drew := (((Upd.refl [] wr).alloc _).alloc _).drew
  obtain ⟨W, hW⟩ : ∃ W, W = ((wr.alloc (.cells zero128 5)).alloc (.cells #[.slice (some ⟨wr.heap.size, 0, none⟩) 128 128] 26)).drew := ⟨_, rfl⟩
  have hWs : W.heap.size = wr.heap.size + 2 := by rw [hW]; simp
  have hWz : W.heap[wr.heap.size]? = some (.cells zero128 5 (0, 0)) := by
    rw [hW]
    show ((wr.alloc _).alloc _).heap[wr.heap.size]? = _
    rw [heap_alloc_lt _ (by simp), heap_alloc_new]
  rw [← hW] at g2 g3 u3
  clear hW
  have hob : ∀ x ∈ v.ownBlock.toList, w.heap.size + 2 ≤ x ∧ x < wr.heap.size := fun x hx => ⟨Ow.block own x hx, own.lt' x (by simpa using hx)⟩
  have hg : w.heap.size + 2 ≤ g := by
    rcases g3 with h | h
    · exact (hob g (by simp [h])).1
    · have := upd.size; omega
  have hgn : g ≠ wr.heap.size := by
    rcases g3 with h | h
    · have := (hob g (by simp [h])).2; omega
    · omega
  have us : Upd [w.heap.size + 1] w2 (w2.setCell ⟨w.heap.size + 1, 0, none⟩ (.slice (some ⟨g, 0, none⟩) n cap)) := (Upd.refl _ _).setCell _ (by simp)
  have hnd : w.heap.size + 1 ∉ v.ownBlock.toList := fun hx => by have := (hob _ hx).1; omega
  have hnm : w.heap.size ∉ v.ownBlock.toList := fun hx => by have := (hob _ hx).1; omega
  have all : ∀ x l, Bs (g :: (w.heap.size + 1) :: w.heap.size :: (v.ownBlock.toList ++ M)) W x l → Bs ((w.heap.size + 1) :: w.heap.size :: ((Value.slice (some ⟨g, 0, none⟩) n cap).ownBlock.toList ++ M)) (w2.setCell ⟨w.heap.size + 1, 0, none⟩ (.slice (some ⟨g, 0, none⟩) n cap)) x l := by
    intro x l hx
    have h1 := hx.upd g2 (fun y hy => .inl (by simp [hy]))
    have h2 := h1.upd us (fun y hy => .inl (by simp at hy; simp [hy]))
    exact h2.more (fun y hy => .inl (by simp [Value.ownBlock] at hy; simp only [List.mem_cons, List.mem_append]; rcases hy with h | h | h | h <;> simp [h]))
  refine ⟨g1.upd us (by simp [Value.ownBlock]; omega), ?_, ?_, ?_, ?_⟩
  · intro x hx
    rcases List.mem_append.1 hx with hx | hx
    · refine all x _ (((elems x hx).keep u3).more ?_)
      intro y hy
      rcases List.mem_cons.1 hy with rfl | hy
      · rcases g3 with h | h
        · exact .inl (by simp [h])
        · exact .inr h
      · exact .inl hy
    · simp only [List.mem_singleton] at hx
      subst hx
      refine all _ _ (zero128_bs _ hWz ?_)
      intro hy
      simp only [List.mem_cons, List.mem_append] at hy
      rcases hy with h | h | h | h | h
      · exact hgn h.symm
      · omega
      · omega
      · have := (hob _ h).2; omega
      · have := hM _ h; have := upd.size; omega
  · rw [heap_setCell_same _ (g2.heap (u3.heap blk (by simp)) hnd)]
    rfl
  · exact ((map.upd u3 (by simp)).upd g2 hnm).upd us (by simp)
  · refine (upd.trans u3).trans' (T := v.ownBlock.toList ++ [w.heap.size + 1]) (g2.trans' us (fun x hx => .inl (by simp [hx])) (fun x hx => .inl (by simp at hx; simp [hx]))) (by simp) ?_
    intro x hx
    rcases List.mem_append.1 hx with hx | hx
    · have := (hob x hx).1; exact .inr (by omega)
    · simp at hx; exact .inr (by omega)

theorem NewRel.disk {M : List Nat} {w wr : World} {v : Value} {vs : List Value} (h : NewRel M w wr v vs) (hM : ∀ x ∈ M, x < w.heap.size) (h1 : 1 ≤ vs.length) (h2 : vs.length ≤ 4096) :
    ∃ a, DiskAt ((w.heap.size + 1) :: a :: w.heap.size :: M) wr (w.heap.size + 1) a w.heap.size (newS vs.length) ∧ w.heap.size ≤ a := by
  obtain ⟨own, elems, blk, map, upd⟩ := h
  obtain ⟨hl, hr⟩ := own
  rcases hr with ⟨rfl, h0⟩ | ⟨g, cap, cur, rfl, hg, hh, hn, hcap, hsz, htake⟩
  · omega
  · have hd := lt_of_block blk
    have hm := map.lt
    have hn' : (newS vs.length).n = vs.length := by simp [newS, DiskS.n]
    refine ⟨g, ⟨⟨by rw [hn']; exact h1, by rw [hn']; exact h2, ?_, ?_, by simp [newS], by simp [newS], by simp [newS], by simp [newS]⟩, ?_, by simp, by simp, by simp, by omega, by omega, by omega, ⟨cap, by rw [hn']; exact blk, by omega, hcap⟩, ⟨cur.toList, by simpa using hh, ?_, ?_⟩, ⟨[], map, ?_, ?_⟩⟩, by omega⟩
    · intro s hs
      simp only [newS, List.mem_replicate] at hs
      rw [hs.2]; simp
    · intro i b hb
      simp [newS] at hb
    · intro x hx
      have := lt_of_block hh
      simp only [List.mem_cons] at hx
      rcases hx with rfl | rfl | rfl | hx
      · exact hd
      · omega
      · exact hm
      · have := hM x hx; have := upd.size; omega
    · rw [hn']; simp; omega
    · intro i hi
      rw [hn'] at hi
      have hi2 : vs[i]? = some vs[i] := by simp
      refine ⟨vs[i], ?_, ?_⟩
      · obtain ⟨y, hy⟩ : ∃ y, y = vs[i] := ⟨_, rfl⟩
        rw [← hy] at hi2 ⊢
        rw [← htake, List.getElem?_take] at hi2
        split at hi2
        · simpa using hi2
        · cases hi2
      · have := elems vs[i] (List.getElem_mem hi)
        have e : (newS vs.length).sure.getD i [] = List.replicate 128 0 := by
          simp [newS, List.getD_eq_getElem?_getD, hi]
        rw [e]
        exact this.more (fun y hy => .inl (by simp [Value.ownBlock] at hy ⊢; rcases hy with h | h | h | h <;> simp [h]))
    · intro k v' hk
      simp [mget] at hk
    · intro i _
      rfl

set_option maxRecDepth 100000 in
set_option maxHeartbeats 1000000 in
theorem new_is (M : List Nat) (w : World) (n : Nat) (h1 : 1 ≤ n) (h2 : n ≤ 4096) (hM : ∀ x ∈ M, x < w.heap.size) :
    Calls Tryd.prog 27 #[.int .i64 n] w fun e w' => ∃ d a m, e = .returned (.tuple #[ptr d, .int .i64 0]) ∧ DiskAt (d :: a :: m :: M) w' d a m (newS n) ∧ w.heap.size ≤ d ∧ w.heap.size ≤ a ∧ w.heap.size ≤ m ∧ Upd [] w w' := by
  have hmm := @run_makeMap Tryd.prog
  have hmk := make128
  have HM := Sd.mk hM
  clear hM
  go_enter Tryd.func27, Tryd.ntmps27
  go_wp2
  go_loopg [15] n (fun g k wr => ∃ (i : Nat) (v : Value) (vs : List Value), k = .int .i64 i ∧ i ≤ n ∧ Sd (g = n - i) ∧ Sd (NewRel M w wr v vs) ∧ Sd (vs.length = i))
  case atStart =>
    refine ⟨0, .slice none 0 0, [], rfl, by omega, ⟨rfl⟩, ⟨⟨Ow.nil _ _ _, by simp, ?_, (MapAt.new intKey w).upd ((Upd.refl [] _).alloc _) (by simp), ((Upd.refl [] w).alloc _).alloc _⟩⟩, ⟨rfl⟩⟩
    have := heap_alloc_new (w.alloc (.map #[] 0)) (.cells #[.slice none 0 0, .map (some w.heap.size), .int .i64 0, .bool false, .int .i64 0] 77)
    simpa using this
  case round =>
    obtain ⟨i, v, vs, rfl, hi, hg, hR, hlen⟩ := hrel
    by_cases hlt : i < n
    · have hO := Sd.mk hR.out.own
      have hcv := cell_of (k := 0) hR.out.blk rfl
      have hfz := free_of hR.out.blk 0
      have hz := lt_of_block hR.out.blk
      have hlen2 : vs.length < 4096 := by have := hlen.out; omega
      have hu2 := Sd.mk (((Upd.refl [] wr).drew.alloc (.cells zero128 5)).alloc (.cells #[.slice (some ⟨wr.heap.size, 0, none⟩) 128 128] 26))
      have hz0 : w.heap.size < wr.heap.size := by omega
      have HOB := Sd.mk (show ∀ x ∈ v.ownBlock.toList, x ≠ w.heap.size + 1 by
        intro x hx e
        have := Ow.block hO.out x hx
        omega)
      have HR := Sd.mk (show Rd [] ((wr.alloc (.cells zero128 5)).alloc (.cells #[.slice (some ⟨wr.heap.size, 0, none⟩) 128 128] 26)).drew (.slice (some ⟨wr.heap.size + 1, 0, none⟩) 1 1) [.slice (some ⟨wr.heap.size, 0, none⟩) 128 128] by
        have := Rd.one (w := (wr.alloc (.cells zero128 5)).alloc (.cells #[.slice (some ⟨wr.heap.size, 0, none⟩) 128 128] 26)) (heap_alloc_new _ _) (c := 1) (by omega) (by rw [maxLen_is]; omega)
        simpa using this.keep (Upd.refl [] _).drew)
      go_wp2
      go_region_law ((refine step_app (by rfl) _ _ _ (by rfl) 26 (.slice none 0 0) 24 undBss infoBs rfl (w.heap.size + 2) v vs (by rfl) (hO.out.keep hu2.out) [] (.slice (some ⟨wr.heap.size + 1, 0, none⟩) 1 1) [.slice (some ⟨wr.heap.size, 0, none⟩) 128 128] (by rfl) HR.out (by simp) (by simp [Value.oneCell']) (by decide) (by simp; omega) (by simp; omega) ?_; intro g cap w2 g1 g2 g3 g4; have hc2 := g2.cell (p := ⟨w.heap.size + 1, 0, none⟩) (v := v) (by simp [World.cell?_alloc_past, hcv, hz, hz0]) (fun hm => HOB.out _ hm rfl); have hf2 : w2.frozen? ⟨w.heap.size + 1, 0, none⟩ = false := (by rw [World.frozen?_of_block (g2.block _ (by simp; omega) (fun hm => HOB.out _ hm rfl))]; simp [World.frozen?_alloc_past, hfz, hz, hz0]); have G := Sd.mk (hR.out.step HM.out g1 g2 g3); clear g1 g2 g3))
      all_goals
        go_wp2
        go_roundg (n - (i + 1))
        case measure => rw [hg.out]; omega
        case rel =>
          have G' := G.out
          simp only [List.length_singleton] at G'
          exact ⟨i + 1, _, _, by go_num, by omega, ⟨rfl⟩, ⟨G'⟩, ⟨by rw [List.length_append, hlen.out]; rfl⟩⟩
    · obtain rfl : i = n := by omega
      go_wp2
      go_ret2
      obtain ⟨a, hd, ha⟩ := hR.out.disk HM.out (by rw [hlen.out]; exact h1) (by rw [hlen.out]; exact h2)
      rw [hlen.out] at hd
      exact ⟨w.heap.size + 1, a, w.heap.size, rfl, hd, by omega, ha, by omega, hR.out.upd⟩
end Go.Proofs.YtpcndlipdfcnfaaDoor
