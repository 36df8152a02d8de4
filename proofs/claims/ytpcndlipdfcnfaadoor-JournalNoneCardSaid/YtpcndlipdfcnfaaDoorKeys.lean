/- slices.Sorted(maps.Keys(m)), m a map[int][]byte: the keys, sorted. -/
import Derived.Test.YtpcndlipdfcnfaaDoorDiskW
import Derived.Test.YtpcndlipdfcnfaaDoorLaid
namespace Go.Proofs.YtpcndlipdfcnfaaDoor
open Go Go.RowKit

theorem sortsA (k : Nat) : AnyZI.SortsIn Tryd.prog Tryd.sortedA_ren Fence.wide k :=
  ⟨fun blk off cap ss W hH hblk hsz => callsIn_wide.2 (AnyM.slices_Sort_int Tryd.sortA blk off cap ss W hH hblk hsz),
   fun p cap W => callsIn_wide.2 (AnyM.slices_Sort_int_none Tryd.sortA p cap W)⟩

def anyR : Value → Option (DataW Unit × List MemPlace) := fun _ => some (.nil, [])
def litOf (k : Int) : Lit × DataW Unit := (.int .i64 k, .nil)

theorem insert_perm (x : Lit × DataW Unit) (l : List (Lit × DataW Unit)) : (DataW.insert x l).Perm (x :: l) := by
  induction l with
  | nil => exact List.Perm.refl _
  | cons y l ih =>
    simp only [DataW.insert]
    split
    · exact List.Perm.refl _
    · exact (ih.cons y).trans (List.Perm.swap x y l)
theorem foldr_perm (l : List (Lit × DataW Unit)) : (l.foldr DataW.insert []).Perm l := by
  induction l with
  | nil => exact List.Perm.refl _
  | cons x l ih => exact (insert_perm x _).trans (ih.cons x)

theorem MapAt.owns {w : World} {m : Nat} {Mp : List (Int × Value)} (h : MapAt intKey w m Mp) (hr : ∀ k ∈ mkeys Mp, 0 ≤ k ∧ k ≤ 9223372036854775807) (hl : Mp.length ≤ 1000000) :
    ∃ D0 : DataW Unit, w.ownsMap Tryd.prog 3 anyR m Mp.length D0 ∧ (intKeys D0).Perm (mkeys Mp) ∧ Maps.size D0 = Mp.length := by
  obtain ⟨es, c, hh, E⟩ := h
  have hlen : es.toList.length = Mp.length := by have := congrArg List.length E.same; simpa using this
  have hk : ∀ x ∈ es.toList, ∃ k, x.key = intKey k ∧ k ∈ mkeys Mp := by
    intro x hx
    have h1 : entOf x ∈ Mp.map fun p => (intKey p.1, p.2) := by rw [← E.same]; exact List.mem_map_of_mem hx
    obtain ⟨p, hp, he⟩ := List.mem_map.1 h1
    exact ⟨p.1, (congrArg Prod.fst he).symm, List.mem_map_of_mem hp⟩
  have hrd : ∀ x ∈ es.toList, ∀ k, x.key = intKey k → k ∈ mkeys Mp → WideElems.rd Tryd.prog 3 anyR x = some (litOf k) := by
    intro x hx k hxk hkm
    have hw : (Lit.int .i64 k).wf = true := by
      have := hr k hkm
      simp only [Lit.wf, Bool.and_eq_true, decide_eq_true_eq]
      exact ⟨by show (-9223372036854775808 : Int) ≤ k; omega, by show k ≤ (9223372036854775807 : Int); omega⟩
    have hko : keyOf Tryd.prog 3 x.key = some (.int .i64 k) := by
      rw [hxk]
      simp [keyOf, mapKey, intKey, hw]
    simp [WideElems.rd, hko, anyR, litOf]
  have hmap : es.toList.map (WideElems.rg Tryd.prog 3 anyR) = (mkeys Mp).map litOf := by
    have h1 : es.toList.map (fun x => x.key) = (mkeys Mp).map intKey := by
      have := congrArg (List.map Prod.fst) E.same
      simpa [mkeys, entOf, Function.comp_def] using this
    refine List.ext_getElem (by simp [mkeys, hlen]) ?_
    intro i h2 h3
    simp only [List.getElem_map]
    have hi : i < es.toList.length := by simpa using h2
    have hi2 : i < (mkeys Mp).length := by simpa using h3
    have h4 : es.toList[i].key = intKey ((mkeys Mp)[i]) := by
      have := List.getElem_of_eq h1 (by simpa using h2)
      simpa using this
    simp only [WideElems.rg, hrd _ (List.getElem_mem hi) _ h4 (List.getElem_mem hi2), Option.getD_some]
  refine ⟨.map ((es.toList.map (WideElems.rg Tryd.prog 3 anyR)).foldr DataW.insert []), ⟨es, c, hh, ⟨?_, ⟨E.lt, E.born, ?_⟩, ?_⟩, ?_, rfl⟩, ?_, ?_⟩
  · have : es.size = Mp.length := by simpa using hlen
    rw [maxLen_is]; omega
  · have h1 : es.toList.map (fun x => x.key) = (mkeys Mp).map intKey := by
      have := congrArg (List.map Prod.fst) E.same
      simpa [mkeys, entOf, Function.comp_def] using this
    show (es.toList.map fun x => x.key).Nodup
    rw [h1]
    rw [List.Nodup, List.pairwise_map]
    refine E.nodup.imp ?_
    intro a b hab he
    exact hab (by simpa [intKey] using he)
  · intro x hx
    obtain ⟨k, h1, h2⟩ := hk x hx
    exact ⟨_, hrd x hx k h1 h2⟩
  · have : es.size = Mp.length := by simpa using hlen
    omega
  · rw [hmap]
    show (((mkeys Mp).map litOf).foldr DataW.insert [] |>.map fun p => _root_.Go.intOf p.1).Perm (mkeys Mp)
    refine ((foldr_perm _).map _).trans ?_
    rw [List.map_map]
    have : (fun p : Lit × DataW Unit => _root_.Go.intOf p.1) ∘ litOf = id := by funext k; rfl
    rw [this, List.map_id]
  · rw [hmap, Maps.size_eq, (foldr_perm _).length_eq]
    simp [mkeys]

theorem keys_is (mb : Option Nat) (w : World) : Calls Tryd.prog 47 #[.map mb] w fun e w' => e = .returned (.func (.func 64) #[] #[ptr w.heap.size]) ∧ w' = w.alloc (.cells #[.map mb] 75) :=
  (callsIn_wide (n := 5)).1 (AnyZI.keys_in Tryd.keysA Fence.wide 5 trivial rfl mb w)

theorem sorted_is {w : World} {m : Nat} {Mp : List (Int × Value)} (h : MapAt intKey w m Mp) (hr : ∀ k ∈ mkeys Mp, 0 ≤ k ∧ k ≤ 9223372036854775807) (hl : Mp.length ≤ 1000000) :
    Calls Tryd.prog 46 #[.func (.func 64) #[] #[ptr w.heap.size]] (w.alloc (.cells #[.map (some m)] 75)) fun e w' => ∃ (v : Value) (ss : List Int), e = .returned v ∧ ss.Perm (mkeys Mp) ∧ ss.Pairwise (· ≤ ·) ∧ Ow 3 w.heap.size w' v (ss.map intKey) ∧ Upd [] w w' := by
  obtain ⟨D0, hown, hp, hs⟩ := h.owns hr hl
  have hbl := hown.lt
  have hseq : SeqGives Fence.wide 2 Tryd.prog 64 #[ptr w.heap.size] encZ (fun ss => ss.Perm (intKeys D0)) (Maps.size D0) (w.alloc (.cells #[.map (some m)] 75)) :=
    AnyZI.keys_gives (ρ := Tryd.keysA_ren) { Tryd.keysA with } Fence.wide _ trivial rfl (by omega) w.heap.size m Mp.length D0 _ (by simp) (by simp) (by
      obtain ⟨es, clock, hb, Ft, hs, hD⟩ := hown
      exact ⟨es, clock, (Below.heap_alloc _ _ m hbl).trans hb, Ft, hs, hD⟩)
  have cS := AnyZI.sorted_in Tryd.sortedA Fence.wide 5 trivial trivial trivial trivial rfl (by omega) (sortsA _) (enters_of Tryd.func63 (by kernel_rfl) rfl) 64 #[ptr w.heap.size] trivial (enters_of Tryd.func64 (by kernel_rfl) rfl) _ _ (by rw [hs, maxLen_is]; omega) (by rw [hs]; omega) _ hseq
  refine ((callsIn_wide (n := 5)).1 cS).mono ?_
  rintro e w' ⟨v, ss, rfl, hS, hrow, hnil, hb⟩
  have hperm := List.mergeSort_perm ss (fun x y => decide (x ≤ y))
  refine ⟨v, ss.mergeSort (fun x y => decide (x ≤ y)), rfl, hperm.trans (hS.trans hp), ?_, ?_, ?_⟩
  · have := List.pairwise_mergeSort (le := fun x y : Int => decide (x ≤ y)) (by intro a b c; simp; omega) (by intro a b; simp; omega) ss
    exact this.imp (by simp)
  · have hl : (List.map intKey (ss.mergeSort fun x y => decide (x ≤ y))).length = ss.length := by simp
    unfold Ow
    rw [hl]
    exact (ownsRow_base_a hrow (by simp))
  · exact ((Upd.refl [] w).alloc _).trans (Upd.ofBelow hb)
end Go.Proofs.YtpcndlipdfcnfaaDoor
