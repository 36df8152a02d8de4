/- The disk: what its functions do, said of a plain state. -/
import Derived.Test.YtpcndlipdfcnfaaDoorBytes
import Derived.Test.YtpcndlipdfcnfaaDoorMaps
namespace Go.Proofs.YtpcndlipdfcnfaaDoor
open Go Go.RowKit

/-- A disk's state. -/
structure DiskS where
  sure : List (List UInt8)
  dirty : Nat → Option (List UInt8)
  trip : Int
  down : Bool
  life : Int

namespace DiskS
def n (D : DiskS) : Nat := D.sure.length
structure Ok (D : DiskS) : Prop where
  n1 : 1 ≤ D.n
  n2 : D.n ≤ 4096
  len : ∀ s ∈ D.sure, s.length = 128
  dlen : ∀ i b, D.dirty i = some b → b.length = 128 ∧ i < D.n
  t0 : 0 ≤ D.trip
  t1 : D.trip ≤ 9223372036854775807
  l0 : 0 ≤ D.life
  l1 : D.life ≤ 9223372036854775807
def powered (D : DiskS) (i : Int) : Int := if D.down then 7 else if i < 0 ∨ (D.n : Int) ≤ i then 2 else 0
def get (D : DiskS) (i : Nat) : List UInt8 := match D.dirty i with
  | some b => b
  | none => D.sure.getD i []
def readB (D : DiskS) (i : Int) : List UInt8 := if D.powered i = 0 then D.get i.toNat else []
end DiskS

def iv (n : Int) : Value := .int .i64 n
def intKey (n : Int) : Value := .int .i64 n
theorem undMapB : Tryd.prog.underlying 75 = some (.map 3 26) := by kernel_rfl
theorem intKeyOk : KeyOk Tryd.prog 3 intKey := keyOk_int undInt

/-- The disk d of w, its sectors' array a, its map m: the state D. All blocks that are turned later are in M. -/
structure DiskAt (M : List Nat) (w : World) (d a m : Nat) (D : DiskS) : Prop where
  ok : D.Ok
  mlt : ∀ x ∈ M, x < w.heap.size
  dM : d ∈ M
  aM : a ∈ M
  mM : m ∈ M
  da : d ≠ a
  dm : d ≠ m
  am : a ≠ m
  blk : ∃ cap, w.heap[d]? = some (.cells #[.slice (some ⟨a, 0, none⟩) D.n cap, .map (some m), .int .i64 D.trip, .bool D.down, .int .i64 D.life] 77 (0, 0)) ∧ D.n ≤ cap ∧ cap ≤ maxLen
  arr : ∃ vs : List Value, w.heap[a]? = some (.cells vs.toArray 26 (0, 0)) ∧ D.n ≤ vs.length ∧ ∀ i, i < D.n → ∃ v, vs[i]? = some v ∧ Bs M w v (D.sure.getD i [])
  map : ∃ Mp : List (Int × Value), MapAt intKey w m Mp ∧ (∀ k v, mget Mp k = some v → 0 ≤ k ∧ ∃ b, D.dirty k.toNat = some b ∧ Bs M w v b) ∧ ∀ i : Nat, mget Mp (i : Int) = none → D.dirty i = none

theorem cells5 {w : World} {b : Nat} {c0 c1 c2 c3 c4 : Value} {t : TypeId} (h : w.heap[b]? = some (.cells #[c0, c1, c2, c3, c4] t (0, 0))) :
    w.cell? ⟨b, 0, none⟩ = some c0 ∧ w.cell? ⟨b, 1, none⟩ = some c1 ∧ w.cell? ⟨b, 2, none⟩ = some c2 ∧ w.cell? ⟨b, 3, none⟩ = some c3 ∧ w.cell? ⟨b, 4, none⟩ = some c4 ∧ (∀ k, w.frozen? ⟨b, k, none⟩ = false) :=
  ⟨cell_of h rfl, cell_of h rfl, cell_of h rfl, cell_of h rfl, cell_of h rfl, free_of h⟩

theorem DiskAt.upd {M S : List Nat} {w w' : World} {d a m : Nat} {D : DiskS} (h : DiskAt M w d a m D) (u : Upd S w w') (hS : ∀ x ∈ S, (x ∈ M ∧ x ≠ d ∧ x ≠ a ∧ x ≠ m) ∨ w.heap.size ≤ x) : DiskAt M w' d a m D := by
  obtain ⟨ok, mlt, dM, aM, mM, da, dm, am, ⟨cap, blk, hc⟩, ⟨vs, arr, hvs, hv⟩, ⟨Mp, mp, h1, h2⟩⟩ := h
  have hin : ∀ x, x < w.heap.size → (x = d ∨ x = a ∨ x = m) → x ∉ S := by
    intro x hx he hm
    rcases hS x hm with ⟨_, h1, h2, h3⟩ | h
    · rcases he with rfl | rfl | rfl <;> contradiction
    · omega
  have hS' : ∀ x ∈ S, x ∈ M ∨ w.heap.size ≤ x := fun x hx => (hS x hx).imp (·.1) id
  exact ⟨ok, fun x hx => u.lt (mlt x hx), dM, aM, mM, da, dm, am, ⟨cap, u.heap blk (hin _ (lt_of_block blk) (.inl rfl)), hc⟩,
    ⟨vs, u.heap arr (hin _ (lt_of_block arr) (.inr (.inl rfl))), hvs, fun i hi => let ⟨v, e, hb⟩ := hv i hi; ⟨v, e, hb.upd u hS'⟩⟩,
    ⟨Mp, mp.upd u (hin _ mp.lt (.inr (.inr rfl))), fun k v hk => let ⟨h0, b, e, hb⟩ := h1 k v hk; ⟨h0, b, e, hb.upd u hS'⟩, h2⟩⟩
theorem DiskAt.keep {M : List Nat} {w w' : World} {d a m : Nat} {D : DiskS} (h : DiskAt M w d a m D) (u : Upd [] w w') : DiskAt M w' d a m D := h.upd u (by simp)
theorem DiskAt.more {M M' : List Nat} {w : World} {d a m : Nat} {D : DiskS} (h : DiskAt M w d a m D) (h1 : ∀ x ∈ M, x ∈ M') (h2 : ∀ x ∈ M', x ∈ M ∨ w.heap.size ≤ x) (h5 : ∀ x ∈ M', x < w.heap.size) : DiskAt M' w d a m D := by
  obtain ⟨ok, mlt, dM, aM, mM, da, dm, am, blk, ⟨vs, arr, hvs, hv⟩, ⟨Mp, mp, h3, h4⟩⟩ := h
  exact ⟨ok, h5, h1 _ dM, h1 _ aM, h1 _ mM, da, dm, am, blk, ⟨vs, arr, hvs, fun i hi => let ⟨v, e, hb⟩ := hv i hi; ⟨v, e, hb.more h2⟩⟩,
    ⟨Mp, mp, fun k v hk => let ⟨h0, b, e, hb⟩ := h3 k v hk; ⟨h0, b, e, hb.more h2⟩, h4⟩⟩
theorem DiskAt.lt {M : List Nat} {w : World} {d a m : Nat} {D : DiskS} (h : DiskAt M w d a m D) : d < w.heap.size ∧ a < w.heap.size ∧ m < w.heap.size := by
  obtain ⟨ok, mlt, dM, aM, mM, da, dm, am, ⟨cap, blk, hc⟩, ⟨vs, arr, hvs, hv⟩, ⟨Mp, mp, h1, h2⟩⟩ := h
  exact ⟨lt_of_block blk, lt_of_block arr, mp.lt⟩
abbrev ptr (d : Nat) : Value := .pointer (some ⟨d, 0, none⟩)

/-! ### the nil disk -/
set_option maxHeartbeats 400000 in
theorem sectors_nil (w : World) : Calls Tryd.prog 39 #[.pointer none] w fun e w' => e = .returned (.int .i64 0) ∧ w = w' := by
  go_enter Tryd.func39, Tryd.ntmps39
  go_wp2
  go_ret
  exact ⟨rfl, rfl⟩

/-! ### what is asked alone -/
section
variable {M : List Nat} {w : World} {d a m : Nat} {D : DiskS}
set_option maxRecDepth 100000 in
set_option maxHeartbeats 400000 in
theorem sectors_is (h : DiskAt M w d a m D) : Calls Tryd.prog 39 #[ptr d] w fun e w' => e = .returned (.int .i64 D.n) ∧ w = w' := by
  obtain ⟨cap, blk, _, _⟩ := h.blk
  have hc := (cells5 blk).1
  clear h blk
  go_enter Tryd.func39, Tryd.ntmps39
  go_wp2
  go_ret
  exact ⟨rfl, rfl⟩
set_option maxRecDepth 100000 in
set_option maxHeartbeats 400000 in
theorem life_is (h : DiskAt M w d a m D) : Calls Tryd.prog 22 #[ptr d] w fun e w' => e = .returned (.int .i64 D.life) ∧ w = w' := by
  obtain ⟨cap, blk, _, _⟩ := h.blk
  have hc := (cells5 blk).2.2.2.2.1
  clear h blk
  go_enter Tryd.func22, Tryd.ntmps22
  go_wp2
  go_ret
  exact ⟨rfl, rfl⟩
set_option maxRecDepth 100000 in
set_option maxHeartbeats 400000 in
theorem down_is (h : DiskAt M w d a m D) : Calls Tryd.prog 38 #[ptr d] w fun e w' => e = .returned (.bool D.down) ∧ w = w' := by
  obtain ⟨cap, blk, _, _⟩ := h.blk
  have hc := (cells5 blk).2.2.2.1
  clear h blk
  go_enter Tryd.func38, Tryd.ntmps38
  go_wp2
  go_ret
  exact ⟨rfl, rfl⟩
set_option maxRecDepth 100000 in
set_option maxHeartbeats 1000000 in
theorem powered_is (h : DiskAt M w d a m D) (i : Int) (hi : -9223372036854775808 ≤ i) (hi' : i ≤ 9223372036854775807) : Calls Tryd.prog 50 #[ptr d, .int .i64 i] w fun e w' => e = .returned (.int .i64 (D.powered i)) ∧ w = w' := by
  obtain ⟨cap, blk, _, _⟩ := h.blk
  have hc0 := (cells5 blk).1
  have hc3 := (cells5 blk).2.2.2.1
  clear h blk
  by_cases hdn : D.down = true
  · rw [hdn] at hc3
    have HD := Sd.mk hdn
    clear hdn
    go_enter Tryd.func50, Tryd.ntmps50
    go_wp2
    go_ret
    exact ⟨by simp [DiskS.powered, HD.out], rfl⟩
  · rw [Bool.not_eq_true] at hdn
    rw [hdn] at hc3
    have HD := Sd.mk hdn
    clear hdn
    by_cases h1 : i < 0
    · go_enter Tryd.func50, Tryd.ntmps50
      go_wp2
      go_ret
      exact ⟨by simp [DiskS.powered, HD.out, h1], rfl⟩
    · have h1' : 0 ≤ i := by omega
      by_cases h2 : (D.n : Int) ≤ i
      · go_enter Tryd.func50, Tryd.ntmps50
        go_wp2
        go_ret
        exact ⟨by simp [DiskS.powered, HD.out, h2], rfl⟩
      · have h2' : i < (D.n : Int) := by omega
        go_enter Tryd.func50, Tryd.ntmps50
        go_wp2
        go_ret
        exact ⟨by simp [DiskS.powered, HD.out, h1, h2], rfl⟩

/-! ### Read -/
theorem powered_zero {D : DiskS} {i : Int} (h : D.powered i = 0) : D.down = false ∧ 0 ≤ i ∧ i < D.n := by
  unfold DiskS.powered at h
  split at h
  · cases h
  · split at h
    · cases h
    · rename_i h1 h2
      refine ⟨by simpa using h1, by omega, by omega⟩
theorem get_len {D : DiskS} (ok : D.Ok) (i : Nat) (hi : i < D.n) : (D.get i).length = 128 := by
  unfold DiskS.get
  split
  · rename_i b hb
    exact (ok.dlen i b hb).1
  · have : D.sure.getD i [] ∈ D.sure := by
      rw [List.getD_eq_getElem?_getD, List.getElem?_eq_getElem hi]
      exact List.getElem_mem hi
    exact ok.len _ this
theorem zeroB (w : World) : (zeroValue 26).run Tryd.prog w = .ok (.slice none 0 0) w := by kernel_rfl

theorem powered_ne {D : DiskS} {i : Int} (h : D.powered i ≠ 0) : (D.powered i != 0) = true := by rw [bne_iff_ne]; exact h

set_option maxRecDepth 100000 in
set_option maxHeartbeats 1000000 in
theorem read_is (h : DiskAt M w d a m D) (i : Int) (hi : -9223372036854775808 ≤ i) (hi' : i ≤ 9223372036854775807) : Calls Tryd.prog 53 #[ptr d, .int .i64 i] w fun e w' => ∃ v, e = .returned (.tuple #[v, .int .i64 (D.powered i)]) ∧ Bs M w' v (D.readB i) ∧ Upd [] w w' := by
  obtain ⟨cap, blk, _, _⟩ := h.blk
  obtain ⟨vs, arr, hvl, hvs⟩ := h.arr
  obtain ⟨Mp, hmp, hm1, hm2⟩ := h.map
  have hc0 := (cells5 blk).1
  have hc1 := (cells5 blk).2.1
  have HP := Sd.mk (powered_is h i hi hi')
  have HM := Sd.mk h.mlt
  by_cases hp : D.powered i = 0
  · obtain ⟨hdn, h0, h1⟩ := powered_zero hp
    obtain ⟨k, rfl⟩ : ∃ k : Nat, i = k := ⟨i.toNat, by omega⟩
    have hk : k < D.n := by omega
    have hl := get_len h.ok k hk
    have hn2 := h.ok.n2
    have HG := Sd.mk (show D.readB (k : Int) = D.get k by simp [DiskS.readB, hp])
    have HP' := Sd.mk hp
    cases hv : mget Mp (k : Int) with
    | some v =>
      obtain ⟨_, b, hb1, hb2⟩ := hm1 _ v hv
      have hlk : (Instr.lookup 75 (.map (some m)) (.int .i64 (k : Int)) true).run Tryd.prog w = .ok (.tuple #[v, .bool true]) w := run_lookup_some intKeyOk undMapB hmp (k : Int) v hv true
      have hbl : b.length = 128 := (h.ok.dlen k b hb1).1
      have HC := Sd.mk (clone_any hb2 (by omega))
      have HB := Sd.mk (show D.get k = b by simp only [DiskS.get]; rw [show D.dirty k = some b from hb1])
      clear h blk arr hvs hmp hm1 hm2 hv hb2 hb1 hp hl hbl hdn
      go_enter Tryd.func53, Tryd.ntmps53
      go_wp2_with (go_at_call 50; refine HP.out.mono ?_; rw [HP'.out]; rintro e w' ⟨rfl, rfl⟩)
      refine HC.out.mono ?_
      rintro e w1 ⟨v1, rfl, hO, hU, hnil⟩
      have HO := Sd.mk hO
      have HU := Sd.mk hU
      clear hO hU hnil
      go_wp2
      go_ret2
      refine ⟨v1, by rw [HP'.out]; rfl, ?_, HU.out⟩
      rw [HG.out, HB.out]
      exact HO.out.bs M HM.out
    | none =>
      obtain ⟨v, hv1, hv2⟩ := hvs k hk
      have hlk : (Instr.lookup 75 (.map (some m)) (.int .i64 (k : Int)) true).run Tryd.prog w = .ok (.tuple #[.slice none 0 0, .bool false]) w := run_lookup_none intKeyOk undMapB hmp (k : Int) hv (.slice none 0 0) (zeroB w) true
      have hav : w.cell? ⟨a, k, none⟩ = some v := cell_of arr (by simpa using hv1)
      have hg : D.get k = D.sure.getD k [] := by simp only [DiskS.get]; rw [hm2 k hv]
      have HC := Sd.mk (clone_any hv2 (by rw [← hg]; omega))
      have HB := Sd.mk hg
      clear h blk arr hvs hmp hm1 hm2 hv hp hl hdn hg hv2 hv1
      go_enter Tryd.func53, Tryd.ntmps53
      go_wp2_with (go_at_call 50; refine HP.out.mono ?_; rw [HP'.out]; rintro e w' ⟨rfl, rfl⟩)
      refine HC.out.mono ?_
      rintro e w1 ⟨v1, rfl, hO, hU, hnil⟩
      have HO := Sd.mk hO
      have HU := Sd.mk hU
      clear hO hU hnil
      go_wp2
      go_ret2
      refine ⟨v1, by rw [HP'.out]; rfl, ?_, HU.out⟩
      rw [HG.out, HB.out]
      exact HO.out.bs M HM.out
  · have hb := powered_ne hp
    have HN := Sd.mk hp
    obtain ⟨q, hq⟩ : ∃ q, q = D.powered i := ⟨_, rfl⟩
    rw [← hq] at hb HP
    have HQ := Sd.mk hq
    clear hq hp h blk arr hvs hmp hm1 hm2
    go_enter Tryd.func53, Tryd.ntmps53
    go_wp2_with (go_at_call 50; refine HP.out.mono ?_; rintro e w' ⟨rfl, rfl⟩)
    go_ret2
    refine ⟨.slice none 0 0, by rw [← HQ.out]; rfl, ?_, Upd.refl _ _⟩
    rw [DiskS.readB, if_neg HN.out]
    exact Bs.nil _ _
end
end Go.Proofs.YtpcndlipdfcnfaaDoor
