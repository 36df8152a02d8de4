/- The disk: Crash. -/
import Derived.Test.YtpcndlipdfcnfaaDoorDiskC
import Derived.Test.YtpcndlipdfcnfaaDoorFlush
namespace Go.Proofs.YtpcndlipdfcnfaaDoor
open Go Go.RowKit

namespace DiskS
/-- What the k-th dirty sector holds behind a crash: b was written, s was sure. -/
def crashAt (keep : List Bool) (torn at_ : Int) (k : Nat) (b s : List UInt8) : List UInt8 :=
  if (k : Int) = torn ∧ 0 ≤ at_ ∧ at_ ≤ 128 then b.take at_.toNat ++ s.drop at_.toNat else if keep.getD k false = true then b else s
def set1 (D : DiskS) (i : Nat) (b : List UInt8) : DiskS := { D with sure := D.sure.set i b, dirty := fun j => if j = i then none else D.dirty j }
def crashGo (keep : List Bool) (torn at_ : Int) : Nat → DiskS → List Nat → DiskS
  | _, D, [] => D
  | k, D, i :: l => crashGo keep torn at_ (k + 1) (D.set1 i (crashAt keep torn at_ k (D.get i) (D.sure.getD i []))) l
def dirtyKeys (D : DiskS) : List Nat := (List.range D.n).filter fun i => (D.dirty i).isSome
def crash (keep : List Bool) (torn at_ : Int) (D : DiskS) : DiskS := { crashGo keep torn at_ 0 D D.dirtyKeys with trip := 0, down := false, life := D.life + 1 }
theorem crashGo_snoc (keep : List Bool) (torn at_ : Int) (l : List Nat) (i : Nat) : ∀ (k : Nat) (D : DiskS), crashGo keep torn at_ k D (l ++ [i]) = (crashGo keep torn at_ k D l).set1 i (crashAt keep torn at_ (k + l.length) ((crashGo keep torn at_ k D l).get i) ((crashGo keep torn at_ k D l).sure.getD i [])) := by
  induction l with
  | nil => intro k D; rfl
  | cons j l ih =>
    intro k D
    simp only [List.cons_append, crashGo, ih, List.length_cons]
    rw [show k + 1 + l.length = k + (l.length + 1) by omega]
theorem crashGo_keeps (keep : List Bool) (torn at_ : Int) (l : List Nat) : ∀ (k : Nat) (D : DiskS), (crashGo keep torn at_ k D l).n = D.n ∧ ∀ i, i ∉ l → (crashGo keep torn at_ k D l).dirty i = D.dirty i := by
  induction l with
  | nil => intro k D; exact ⟨rfl, fun _ _ => rfl⟩
  | cons j l ih =>
    intro k D
    obtain ⟨h1, h2⟩ := ih (k + 1) (D.set1 j (crashAt keep torn at_ k (D.get j) (D.sure.getD j [])))
    refine ⟨h1.trans (by simp [set1, n]), fun i hi => ?_⟩
    simp only [List.mem_cons, not_or] at hi
    show (crashGo keep torn at_ (k + 1) _ l).dirty i = _
    rw [h2 i hi.2]
    simp [set1, hi.1]
theorem crashGo_life (keep : List Bool) (torn at_ : Int) (l : List Nat) : ∀ (k : Nat) (D : DiskS), (crashGo keep torn at_ k D l).life = D.life := by
  induction l with
  | nil => intro k D; rfl
  | cons j l ih => intro k D; exact ih _ _
end DiskS
theorem sorted_ext : ∀ (l l' : List Nat), l.Pairwise (· < ·) → l'.Pairwise (· < ·) → (∀ i, i ∈ l ↔ i ∈ l') → l = l'
  | [], [], _, _, _ => rfl
  | [], x :: l', _, _, h => absurd ((h x).2 (by simp)) (by simp)
  | x :: l, [], _, _, h => absurd ((h x).1 (by simp)) (by simp)
  | x :: l, y :: l', h1, h2, h => by
    simp only [List.pairwise_cons] at h1 h2
    have hx := (h x).1 (by simp)
    have hy := (h y).2 (by simp)
    have e : x = y := by
      rcases List.mem_cons.1 hx with h | h
      · exact h
      · rcases List.mem_cons.1 hy with h' | h'
        · exact h'.symm
        · have := h1.1 y h'
          have := h2.1 x h
          omega
    subst e
    congr 1
    refine sorted_ext l l' h1.2 h2.2 fun i => ?_
    have := h i
    simp only [List.mem_cons] at this
    constructor
    · intro hi
      rcases this.1 (.inr hi) with h3 | h3
      · subst h3; exact absurd (h1.1 i hi) (by omega)
      · exact h3
    · intro hi
      rcases this.2 (.inr hi) with h3 | h3
      · subst h3; exact absurd (h2.1 i hi) (by omega)
      · exact h3
theorem dirtyKeys_is {D : DiskS} (ok : D.Ok) {ss : List Nat} (h1 : ss.Nodup) (h2 : ss.Pairwise (· ≤ ·)) (h3 : ∀ i, i ∈ ss ↔ D.dirty i ≠ none) : ss = D.dirtyKeys := by
  refine sorted_ext _ _ ?_ ?_ ?_
  · exact (h2.and h1).imp (fun h => by omega)
  · exact (List.pairwise_lt_range).filter _
  · intro i
    rw [h3]
    simp only [DiskS.dirtyKeys, List.mem_filter, List.mem_range]
    cases hd : D.dirty i with
    | none => simp
    | some b => simpa using (ok.dlen i b hd).2

section
variable {M : List Nat} {w : World} {d a m : Nat} {D : DiskS}
theorem DiskAt.set1 (h : DiskAt M w d a m D) (i : Nat) (hi : i < D.n) {b : List UInt8} (hb : b.length = 128) {vs : List Value} (hvl : D.n ≤ vs.length) (hvv : ∀ i, i < D.n → ∃ v, vs[i]? = some v ∧ Bs M w v (D.sure.getD i []))
    {Mp : List (Int × Value)} (hm1 : ∀ k v, mget Mp k = some v → 0 ≤ k ∧ ∃ b, D.dirty k.toNat = some b ∧ Bs M w v b) (hm2 : ∀ i : Nat, mget Mp (i : Int) = none → D.dirty i = none) (hnd : (mkeys Mp).Nodup)
    {w2 : World} (u2 : Upd [a, m] w w2) {vs2 : List Value} (arr2 : w2.heap[a]? = some (.cells vs2.toArray 26 (0, 0))) (hl : vs2.length = vs.length) (hsame : ∀ j, j ≠ i → vs2[j]? = vs[j]?) {v : Value} (hv : vs2[i]? = some v) (hbs : Bs M w v b)
    (hm : MapAt intKey w2 m (mdel Mp (i : Int))) : DiskAt M w2 d a m (D.set1 i b) := by
  obtain ⟨ok, mlt, dM, aM, mM, da, dm, am, ⟨cap, blk, hc⟩, _, _⟩ := h
  have hS : ∀ x ∈ [a, m], x ∈ M ∨ w.heap.size ≤ x := by simp [aM, mM]
  have hn : (D.set1 i b).n = D.n := by simp [DiskS.set1, DiskS.n]
  refine ⟨⟨by rw [hn]; exact ok.n1, by rw [hn]; exact ok.n2, ?_, ?_, ok.t0, ok.t1, ok.l0, ok.l1⟩, fun x hx => u2.lt (mlt x hx), dM, aM, mM, da, dm, am,
    ⟨cap, by rw [hn]; exact u2.heap blk (by simp [da, dm]), by rw [hn]; exact hc⟩, ⟨vs2, arr2, by rw [hn]; omega, ?_⟩, ⟨_, hm, ?_, ?_⟩⟩
  · intro s hs
    simp only [DiskS.set1] at hs
    rcases List.mem_or_eq_of_mem_set hs with h | h
    · exact ok.len s h
    · rw [h]; exact hb
  · intro k b' hb'
    rw [hn]
    simp only [DiskS.set1] at hb'
    split at hb'
    · cases hb'
    · exact ok.dlen k b' hb'
  · intro k hk
    rw [hn] at hk
    by_cases hik : k = i
    · subst hik
      refine ⟨v, hv, ?_⟩
      have : (D.set1 k b).sure.getD k [] = b := by
        have hi' : k < D.sure.length := hk
        simp [DiskS.set1, List.getD_eq_getElem?_getD, hi']
      rw [this]
      exact hbs.upd u2 hS
    · obtain ⟨v', e, hv'⟩ := hvv k hk
      refine ⟨v', by rw [hsame k hik]; exact e, ?_⟩
      have : (D.set1 i b).sure.getD k [] = D.sure.getD k [] := by
        simp [DiskS.set1, List.getD_eq_getElem?_getD, List.getElem?_set_ne (Ne.symm hik)]
      rw [this]
      exact hv'.upd u2 hS
  · intro j v' hj
    rw [mget_mdel hnd] at hj
    split at hj
    · cases hj
    · rename_i e
      obtain ⟨h0, b', e', hb'⟩ := hm1 j v' hj
      refine ⟨h0, b', ?_, hb'.upd u2 hS⟩
      simp only [DiskS.set1]
      rw [if_neg (by omega)]
      exact e'
  · intro k hk
    rw [mget_mdel hnd] at hk
    simp only [DiskS.set1]
    split at hk
    · rename_i e
      rw [if_pos (by omega)]
    · rename_i e
      rw [if_neg (by omega)]
      exact hm2 k hk
theorem DiskAt.setAll (h : DiskAt M w d a m D) {w' : World} (u : Upd [d] w w') (t : Int) (dn : Bool) (l : Int) (ht0 : 0 ≤ t) (ht1 : t ≤ 9223372036854775807) (hl0 : 0 ≤ l) (hl1 : l ≤ 9223372036854775807)
    (hb : ∀ c0 c1 c2 c3 c4 T, w.heap[d]? = some (.cells #[c0, c1, c2, c3, c4] T (0, 0)) → w'.heap[d]? = some (.cells #[c0, c1, .int .i64 t, .bool dn, .int .i64 l] T (0, 0))) : DiskAt M w' d a m { D with trip := t, down := dn, life := l } := by
  obtain ⟨ok, mlt, dM, aM, mM, da, dm, am, ⟨cap, blk, hc⟩, ⟨vs, arr, hvs, hv⟩, ⟨Mp, mp, h1, h2⟩⟩ := h
  have hS : ∀ x ∈ [d], x ∈ M ∨ w.heap.size ≤ x := by simp [dM]
  refine ⟨⟨ok.n1, ok.n2, ok.len, ok.dlen, ht0, ht1, hl0, hl1⟩, fun x hx => u.lt (mlt x hx), dM, aM, mM, da, dm, am, ⟨cap, hb _ _ _ _ _ _ blk, hc⟩,
    ⟨vs, u.heap arr (by simp [Ne.symm da]), hvs, fun i hi => let ⟨v, e, hb⟩ := hv i hi; ⟨v, e, hb.upd u hS⟩⟩,
    ⟨Mp, mp.upd u (by simp [Ne.symm dm]), fun k v hk => let ⟨h0, b, e, hb⟩ := h1 k v hk; ⟨h0, b, e, hb.upd u hS⟩, h2⟩⟩
theorem rd_bool {A : Option Addr} {c : Nat} {keep : List Bool} (h : Rd M w (.slice A keep.length c) (keep.map .bool)) {j : Nat} (hj : j < keep.length) : ∃ kb ko, A = some ⟨kb, ko, none⟩ ∧ w.cell? ⟨kb, ko + j, none⟩ = some (.bool keep[j]) := by
  rcases h with ⟨_, h0⟩ | ⟨b, off, c', hv, h1, h2, h3, h4, h5⟩
  · have : keep = [] := by simpa using h0
    subst this
    simp at hj
  · simp only [Value.slice.injEq] at hv
    obtain ⟨rfl, _, _⟩ := hv
    exact ⟨b, off, rfl, h5 j _ (by simp [hj])⟩
theorem crashAt_len {keep : List Bool} {torn at_ : Int} {k : Nat} {b s : List UInt8} (hb : b.length = 128) (hs : s.length = 128) : (DiskS.crashAt keep torn at_ k b s).length = 128 := by
  unfold DiskS.crashAt
  split
  · simp; omega
  · split <;> assumption

/-- What a round of Crash's loop finds. -/
theorem crash_round (h : DiskAt M w d a m D) {i : Nat} (hi : D.dirty i ≠ none) : i < D.n ∧ ∃ (cap : Nat) (vs : List Value) (Mp : List (Int × Value)) (v : Value) (b : List UInt8) (vo : Value), w.heap[d]? = some (.cells #[.slice (some ⟨a, 0, none⟩) D.n cap, .map (some m), .int .i64 D.trip, .bool D.down, .int .i64 D.life] 77 (0, 0)) ∧
    w.heap[a]? = some (.cells vs.toArray 26 (0, 0)) ∧ D.n ≤ vs.length ∧ (∀ i, i < D.n → ∃ v, vs[i]? = some v ∧ Bs M w v (D.sure.getD i [])) ∧ MapAt intKey w m Mp ∧ (∀ k v, mget Mp k = some v → 0 ≤ k ∧ ∃ b, D.dirty k.toNat = some b ∧ Bs M w v b) ∧ (∀ i : Nat, mget Mp (i : Int) = none → D.dirty i = none) ∧
    mget Mp (i : Int) = some v ∧ D.get i = b ∧ Bs M w v b ∧ b.length = 128 ∧ vs[i]? = some vo ∧ Bs M w vo (D.sure.getD i []) ∧ (D.sure.getD i []).length = 128 := by
  obtain ⟨b, hb⟩ : ∃ b, D.dirty i = some b := by
    cases hd : D.dirty i with
    | none => exact absurd hd hi
    | some b => exact ⟨b, rfl⟩
  obtain ⟨hl, hin⟩ := h.ok.dlen i b hb
  obtain ⟨cap, blk, _, _⟩ := h.blk
  obtain ⟨vs, arr, hvl, hvs⟩ := h.arr
  obtain ⟨Mp, hmp, hm1, hm2⟩ := h.map
  obtain ⟨v, hv⟩ : ∃ v, mget Mp (i : Int) = some v := by
    cases hg : mget Mp (i : Int) with
    | some v => exact ⟨v, rfl⟩
    | none => rw [hm2 i hg] at hb; cases hb
  obtain ⟨_, b', hb', hbs⟩ := hm1 _ v hv
  rw [Int.toNat_natCast, hb] at hb'
  cases hb'
  obtain ⟨vo, hvo, hvb⟩ := hvs i hin
  have hsl : (D.sure.getD i []).length = 128 := by
    have hi' : i < D.sure.length := hin
    rw [List.getD_eq_getElem?_getD, List.getElem?_eq_getElem hi']
    exact h.ok.len _ (List.getElem_mem hi')
  exact ⟨hin, cap, vs, Mp, v, b, vo, blk, arr, hvl, hvs, hmp, hm1, hm2, hv, by simp only [DiskS.get, hb], hbs, hl, hvo, hvb, hsl⟩

set_option maxRecDepth 100000 in
set_option maxHeartbeats 2000000 in
theorem crash_is (h : DiskAt M w d a m D) {kv : Value} {keep : List Bool} (hk : Rd M w kv (keep.map .bool)) (torn at_ : Int) (hto : torn < 0) (hl : D.life < 9223372036854775807) :
    Calls Tryd.prog 7 #[ptr d, .agg #[kv, .int .i64 torn, .int .i64 at_]] w fun e w' => e = .returned (.tuple #[]) ∧ DiskAt M w' d a m (D.crash keep torn at_) ∧ Upd [d, a, m] w w' := by
  have HD := Sd.mk (fun o => dirty_is (h.keep ((Upd.refl [] w).alloc o)))
  have HH := Sd.mk h
  have HK := Sd.mk hk
  obtain ⟨A, c, rfl⟩ : ∃ A c, kv = .slice A keep.length c := by
    rcases hk with ⟨rfl, h0⟩ | ⟨b, off, c, rfl, _⟩
    · have : keep = [] := by simpa using h0
      subst this
      exact ⟨none, 0, rfl⟩
    · exact ⟨some ⟨b, off, none⟩, c, by simp⟩
  clear h hk
  go_enter Tryd.func7, Tryd.ntmps7
  go_wp2_with fail
  refine (HD.out _).mono ?_
  rintro e w1 ⟨v, ss, rfl, hn, hs, hm, hO, hU⟩
  obtain rfl := dirtyKeys_is HH.out.ok hn hs hm
  have hkn : ∀ x ∈ D.dirtyKeys, x < 4096 := fun x hx => by
    have h1 := (hm x).1 hx
    cases hd : D.dirty x with
    | none => exact absurd hd h1
    | some b => have := (HH.out.ok.dlen x b hd).2; have := HH.out.ok.n2; omega
  have hsl := nodup_len 4096 _ hn hkn
  have hrd := hO.rd M (fun x hx => by have := HH.out.mlt x hx; simp; omega)
  obtain ⟨B, c1, rfl, hA⟩ : ∃ B c, v = .slice B D.dirtyKeys.length c ∧ ∀ j (hj : j < D.dirtyKeys.length), ∃ g, B = some ⟨g, 0, none⟩ ∧ w.heap.size < g ∧ w1.cell? ⟨g, j, none⟩ = some (.int .i64 (D.dirtyKeys[j] : Int)) := by
    rcases hO.shape with ⟨rfl, h0⟩ | ⟨g, cap, rfl, hg, _⟩
    · have h1 : D.dirtyKeys = [] := by simpa using h0
      rw [h1]
      exact ⟨none, 0, rfl, fun j hj => absurd hj (by simp)⟩
    · refine ⟨some ⟨g, 0, none⟩, cap, by simp, fun j hj => ⟨g, rfl, by simp at hg; omega, ?_⟩⟩
      rcases hrd with ⟨h1, _⟩ | ⟨b, off, c, h1, _, _, _, _, h5⟩
      · cases h1
      · simp only [Value.slice.injEq, Option.some.injEq, Addr.mk.injEq] at h1
        obtain ⟨⟨rfl, rfl, _⟩, _⟩ := h1
        have := h5 j (.int .i64 (D.dirtyKeys[j] : Int)) (by simp [hj])
        rw [Nat.zero_add] at this
        exact this
  have HA := Sd.mk hA
  have HU := Sd.mk (((Upd.refl [] w).alloc _).trans hU)
  have HM := Sd.mk hm
  have HN := Sd.mk hn
  have hlt := HH.out.lt
  have hbx := hU.heap (heap_alloc_new w _) (by simp)
  have HB := Sd.mk hbx
  have hz1 : w.heap.size < w1.heap.size := lt_of_block hbx
  have HD1 := Sd.mk (HH.out.keep (((Upd.refl [] w).alloc _).trans hU))
  have HK1 := Sd.mk (HK.out.keep (((Upd.refl [] w).alloc _).trans hU))
  clear hn hs hm hO hU hrd hA hkn hbx HD HK
  go_wp2
  go_loopg [12] D.dirtyKeys.length (fun g k wr => ∃ j : Nat, k = .int .i64 j ∧ j ≤ D.dirtyKeys.length ∧ Sd (g = D.dirtyKeys.length - j) ∧ Sd (DiskAt M wr d a m (DiskS.crashGo keep torn at_ 0 D (D.dirtyKeys.take j))) ∧ Sd (Upd [a, m] w1 wr))
  case atStart => exact ⟨0, rfl, by omega, ⟨rfl⟩, HD1, ⟨Upd.refl _ _⟩⟩
  case round =>
    obtain ⟨j, rfl, hj, hg, hD, hu⟩ := hrel
    by_cases hjl : j < D.dirtyKeys.length
    · obtain ⟨g0, rfl, hg0, hcell⟩ := HA.out j hjl
      obtain ⟨i, hi⟩ : ∃ i : Nat, i = D.dirtyKeys[j] := ⟨_, rfl⟩
      rw [← hi] at hcell
      have hcw := hu.out.cell hcell (by simp; omega)
      have hst := DiskS.crashGo_keeps keep torn at_ (D.dirtyKeys.take j) 0 D
      have hni : i ∉ D.dirtyKeys.take j := by
        intro hm
        obtain ⟨q, hq, he⟩ := List.mem_take_iff_getElem.1 hm
        have := List.nodup_iff_pairwise_ne.1 HN.out
        rw [List.pairwise_iff_getElem] at this
        exact this q j (by omega) hjl (by omega) (by rw [he, hi])
      have hdi : (DiskS.crashGo keep torn at_ 0 D (D.dirtyKeys.take j)).dirty i ≠ none := by
        rw [hst.2 i hni]
        exact (HM.out i).1 (by rw [hi]; exact List.getElem_mem hjl)
      have hsucc : DiskS.crashGo keep torn at_ 0 D (D.dirtyKeys.take (j + 1)) = (DiskS.crashGo keep torn at_ 0 D (D.dirtyKeys.take j)).set1 i (DiskS.crashAt keep torn at_ j ((DiskS.crashGo keep torn at_ 0 D (D.dirtyKeys.take j)).get i) ((DiskS.crashGo keep torn at_ 0 D (D.dirtyKeys.take j)).sure.getD i [])) := by
        have hl : (D.dirtyKeys.take j).length = j := by simp; omega
        rw [List.take_succ_eq_append_getElem hjl, DiskS.crashGo_snoc, hl, Nat.zero_add, ← hi]
      obtain ⟨Dj, hDj⟩ : ∃ Dj, Dj = DiskS.crashGo keep torn at_ 0 D (D.dirtyKeys.take j) := ⟨_, rfl⟩
      rw [← hDj] at hD hdi hsucc
      obtain ⟨hin, capj, vs, Mj, v, b, vo, blk, arr, hvl, hvs, hmp, hm1, hm2, hv, hgb, hbs, hbl, hvo, hvb, hsl1⟩ := crash_round hD.out hdi
      rw [hgb] at hsucc
      obtain ⟨s, hs⟩ : ∃ s, s = Dj.sure.getD i [] := ⟨_, rfl⟩
      rw [← hs] at hsucc hvb hsl1
      have HSU := Sd.mk hsucc
      have hlk : (Instr.lookup 75 (.map (some m)) (.int .i64 (i : Int)) false).run Tryd.prog wr = .ok v wr := run_lookup_some intKeyOk undMapB hmp (i : Int) v hv false
      obtain ⟨b1, o1, cc1, rfl, hc11, hc12, hb1M, hb1⟩ := hbs.some (by intro h; rw [h] at hbl; simp at hbl)
      obtain ⟨b2, o2, cc2, rfl, hc21, hc22, hb2M, hb2⟩ := hvb.some (by intro h; rw [h] at hsl1; simp at hsl1)
      rw [hbl] at hbs hc11 hlk hv
      rw [hsl1] at hvb hc21 hvo
      have hav : wr.cell? ⟨a, i, none⟩ = some (.slice (some ⟨b2, o2, none⟩) 128 cc2) := cell_of arr (by simpa using hvo)
      have hfa : wr.frozen? ⟨a, i, none⟩ = false := free_of arr i
      have hc0 := (cells5 blk).1
      have hc1' := (cells5 blk).2.1
      have hda := hD.out.da
      have had := Ne.symm hda
      have ham := hD.out.am
      have hk0 : (0 : Int) ≤ (i : Int) := by omega
      have hk1 : (i : Int) < (Dj.n : Int) := by omega
      have hbxr := hu.out.heap HB.out (by simp; omega)
      have hx0 := cell_of (k := 0) hbxr rfl
      have hx1 := cell_of (k := 1) hbxr rfl
      have hx2 := cell_of (k := 2) hbxr rfl
      have hKr := Sd.mk (HK1.out.upd hu.out (by simp [hD.out.aM, hD.out.mM]))
      have HS1 := Sd.mk (fun (w2 : World) (u2 : Upd [a, m] wr w2) (vs2 : List Value) arr2 hl hsame v (hv : vs2[i]? = some v) b' hb' hbs hm => hD.out.set1 i hin (b := b') hb' hvl hvs hm1 hm2 hmp.nodup u2 (vs2 := vs2) arr2 hl hsame hv hbs hm)
      have HMP := Sd.mk hmp
      have HARR := Sd.mk arr
      have HV := Sd.mk hvo
      have HBS := Sd.mk hbs
      have HVB := Sd.mk hvb
      have HBL := Sd.mk hbl
      have HSL := Sd.mk hsl1
      have hzr : w.heap.size < wr.heap.size := Nat.lt_of_lt_of_le hz1 hu.out.size
      have har : a < wr.heap.size := lt_of_block arr
      clear hcell hst hni hdi hsucc hDj hi hgb hs hmp hm1 hm2 hv hvo arr blk hbs hvb hbl hsl1 hvl hvs hbxr hb1M hb2M hb1 hb2
      by_cases hT : (j : Int) = torn ∧ 0 ≤ at_ ∧ at_ ≤ 128
      · exact absurd hT.1 (by omega)
      · have hno : (((j : Int) == torn) = false) ∨ (((j : Int) == torn) = true ∧ at_ < 0) ∨ (((j : Int) == torn) = true ∧ 0 ≤ at_ ∧ 128 < at_) := by
          by_cases h1 : (j : Int) = torn
          · rw [beq_iff_eq.2 h1]
            by_cases h2 : 0 ≤ at_
            · exact .inr (.inr ⟨rfl, h2, by omega⟩)
            · exact .inr (.inl ⟨rfl, by omega⟩)
          · exact .inl (beq_eq_false_iff_ne.2 h1)
        have HT := Sd.mk hT
        clear hT
        by_cases hkl : j < keep.length
        · obtain ⟨kb, ko, rfl, hkc⟩ := rd_bool hKr.out hkl
          cases hkv : keep[j] with
          | true =>
            rw [hkv] at hkc
            have HKV := Sd.mk hkv
            clear hkv
            have HC := Sd.mk (show DiskS.crashAt keep torn at_ j b s = b by simp only [DiskS.crashAt]; rw [if_neg HT.out, if_pos (by rw [List.getD_eq_getElem?_getD, List.getElem?_eq_getElem hkl, HKV.out]; rfl)])
            rcases hno with h1 | ⟨h1, h2⟩ | ⟨h1, h2, h3⟩
            all_goals
              go_wp2_with (at_delete; refine wpList_mapDel intKeyOk rfl _ _ _ rfl undMapB m Mj (i : Int) rfl rfl (HMP.out.upd ((Upd.refl [a] wr).setCell (p := ⟨a, i, none⟩) (.slice (some ⟨b1, o1, none⟩) 128 cc1) (.inl (by simp))) (by simp [Ne.symm ham])) ?_)
              intro w2 hm2 hu2
              have H1 := Sd.mk hm2
              have H2 := Sd.mk hu2
              clear hm2 hu2
              go_wp2
              go_roundg (D.dirtyKeys.length - (j + 1))
              case measure => rw [hg.out]; omega
              case rel =>
                have u2 : Upd [a, m] wr w2 := ((Upd.refl [a] wr).setCell (p := ⟨a, i, none⟩) (.slice (some ⟨b1, o1, none⟩) 128 cc1) (.inl (by simp))).trans' H2.out (by simp) (by simp)
                exact ⟨j + 1, by go_num, by omega, ⟨rfl⟩, ⟨by rw [HSU.out, HC.out]; exact HS1.out w2 u2 (vs.set i (.slice (some ⟨b1, o1, none⟩) 128 cc1)) (H2.out.heap (by rw [heap_setCell_same _ HARR.out]; simp) (by simp [ham])) (by simp) (fun q hq => List.getElem?_set_ne (Ne.symm hq)) _ (List.getElem?_set_self (List.getElem?_eq_some_iff.1 HV.out).1) b HBL.out HBS.out H1.out⟩, ⟨hu.out.trans u2⟩⟩
          | false =>
            rw [hkv] at hkc
            have HKV := Sd.mk hkv
            clear hkv
            have HC := Sd.mk (show DiskS.crashAt keep torn at_ j b s = s by simp only [DiskS.crashAt]; rw [if_neg HT.out, if_neg (by rw [List.getD_eq_getElem?_getD, List.getElem?_eq_getElem hkl]; simp [HKV.out])])
            rcases hno with h1 | ⟨h1, h2⟩ | ⟨h1, h2, h3⟩
            all_goals
              go_wp2_with (at_delete; refine wpList_mapDel intKeyOk rfl _ _ _ rfl undMapB m Mj (i : Int) rfl rfl HMP.out ?_)
              intro w2 hm2 hu2
              have H1 := Sd.mk hm2
              have H2 := Sd.mk hu2
              clear hm2 hu2
              go_wp2
              go_roundg (D.dirtyKeys.length - (j + 1))
              case measure => rw [hg.out]; omega
              case rel =>
                have u2 : Upd [a, m] wr w2 := H2.out.mono (by simp)
                exact ⟨j + 1, by go_num, by omega, ⟨rfl⟩, ⟨by rw [HSU.out, HC.out]; exact HS1.out w2 u2 vs (H2.out.heap HARR.out (by simp [ham])) rfl (fun q hq => rfl) _ HV.out s HSL.out HVB.out H1.out⟩, ⟨hu.out.trans u2⟩⟩
        · have HC := Sd.mk (show DiskS.crashAt keep torn at_ j b s = s by simp only [DiskS.crashAt]; rw [if_neg HT.out, if_neg (by rw [List.getD_eq_getElem?_getD, List.getElem?_eq_none (by omega)]; simp)])
          have hkl' : keep.length ≤ j := by omega
          rcases hno with h1 | ⟨h1, h2⟩ | ⟨h1, h2, h3⟩
          all_goals
            go_wp2_with (at_delete; refine wpList_mapDel intKeyOk rfl _ _ _ rfl undMapB m Mj (i : Int) rfl rfl HMP.out ?_)
            intro w2 hm2 hu2
            have H1 := Sd.mk hm2
            have H2 := Sd.mk hu2
            clear hm2 hu2
            go_wp2
            go_roundg (D.dirtyKeys.length - (j + 1))
            case measure => rw [hg.out]; omega
            case rel =>
              have u2 : Upd [a, m] wr w2 := H2.out.mono (by simp)
              exact ⟨j + 1, by go_num, by omega, ⟨rfl⟩, ⟨by rw [HSU.out, HC.out]; exact HS1.out w2 u2 vs (H2.out.heap HARR.out (by simp [ham])) rfl (fun q hq => rfl) _ HV.out s HSL.out HVB.out H1.out⟩, ⟨hu.out.trans u2⟩⟩
    · obtain rfl : j = D.dirtyKeys.length := by omega
      have hlife := DiskS.crashGo_life keep torn at_ (D.dirtyKeys.take D.dirtyKeys.length) 0 D
      have HE := Sd.mk (show D.crash keep torn at_ = { DiskS.crashGo keep torn at_ 0 D (D.dirtyKeys.take D.dirtyKeys.length) with trip := 0, down := false, life := D.life + 1 } by rw [List.take_length]; rfl)
      obtain ⟨Dj, hDj⟩ : ∃ Dj, Dj = DiskS.crashGo keep torn at_ 0 D (D.dirtyKeys.take D.dirtyKeys.length) := ⟨_, rfl⟩
      rw [← hDj] at hD hlife HE
      obtain ⟨capj, blk, _, _⟩ := hD.out.blk
      have hc2 := (cells5 blk).2.2.1
      have hc3 := (cells5 blk).2.2.2.1
      have hc4 := (cells5 blk).2.2.2.2.1
      have hfz := (cells5 blk).2.2.2.2.2
      rw [hlife] at hc4
      have hl0 := HH.out.ok.l0
      have HBK := Sd.mk blk
      clear hDj hlife blk
      go_wp2
      go_end0
      have u : Upd [d] wr (((wr.setCell ⟨d, 2, none⟩ (.int .i64 0)).setCell ⟨d, 3, none⟩ (.bool false)).setCell ⟨d, 4, none⟩ (.int .i64 (D.life + 1))) := (((Upd.refl _ _).setCell _ (by simp)).setCell _ (by simp)).setCell _ (by simp)
      refine ⟨rfl, ?_, (HU.out.then hu.out).trans' u (by simp) (by simp)⟩
      rw [HE.out]
      refine hD.out.setAll u 0 false (D.life + 1) (by omega) (by omega) (by omega) (by omega) ?_
      intro c0 c1 c2 c3 c4 T hb
      rw [heap_setCell_same _ (heap_setCell_same _ (heap_setCell_same _ hb))]
      rfl
end
end Go.Proofs.YtpcndlipdfcnfaaDoor
