/- The disk: settle, Flush. -/
import Derived.Test.YtpcndlipdfcnfaaDoorKeys
namespace Go.Proofs.YtpcndlipdfcnfaaDoor
open Go Go.RowKit

namespace DiskS
def settle1 (D : DiskS) (k : Nat) : DiskS := { D with sure := D.sure.set k (D.get k), dirty := fun i => if i = k then none else D.dirty i }
def settleL (D : DiskS) (l : List Nat) : DiskS := l.foldl settle1 D
/-- All that is dirty is sure. -/
def flushed (D : DiskS) : DiskS := { D with sure := (List.range D.n).map D.get, dirty := fun _ => none }
theorem settleL_snoc (D : DiskS) (l : List Nat) (k : Nat) : D.settleL (l ++ [k]) = (D.settleL l).settle1 k := by simp [settleL]
theorem settle1_n (D : DiskS) (k : Nat) : (D.settle1 k).n = D.n := by simp [settle1, n]
theorem settleL_is (l : List Nat) : ∀ D : DiskS, (D.settleL l).n = D.n ∧ (D.settleL l).trip = D.trip ∧ (D.settleL l).down = D.down ∧ (D.settleL l).life = D.life ∧ (∀ i, (D.settleL l).dirty i = if i ∈ l then none else D.dirty i) ∧ ∀ i, i < D.n → (D.settleL l).sure.getD i [] = if i ∈ l then D.get i else D.sure.getD i [] := by
  induction l with
  | nil => intro D; simp [settleL]
  | cons k l ih =>
    intro D
    obtain ⟨h1, h2, h3, h4, h5, h6⟩ := ih (D.settle1 k)
    show ((D.settle1 k).settleL l).n = _ ∧ _
    refine ⟨h1.trans (settle1_n D k), h2, h3, h4, ?_, ?_⟩
    · intro i
      show ((D.settle1 k).settleL l).dirty i = _
      rw [h5]
      simp only [settle1, List.mem_cons]
      by_cases h : i = k
      · simp [h]
      · simp [h]
    · intro i hi
      show ((D.settle1 k).settleL l).sure.getD i [] = _
      rw [h6 i (by rw [settle1_n]; exact hi)]
      have hi' : i < D.sure.length := hi
      by_cases hil : i ∈ l
      · rw [if_pos hil, if_pos (List.mem_cons_of_mem _ hil)]
        simp only [settle1, get]
        by_cases h : i = k
        · subst h
          simp [List.getD_eq_getElem?_getD, hi']
        · rw [if_neg h]
          have : (D.sure.set k (D.get k)).getD i [] = D.sure.getD i [] := by
            simp [List.getD_eq_getElem?_getD, List.getElem?_set_ne (Ne.symm h)]
          simp only [get] at this
          rw [this]
      · rw [if_neg hil]
        simp only [settle1, List.mem_cons]
        by_cases h : i = k
        · subst h
          simp [List.getD_eq_getElem?_getD, hi']
        · simp only [h, hil, or_self, if_false]
          simp [List.getD_eq_getElem?_getD, List.getElem?_set_ne (Ne.symm h)]
theorem ext' {D D' : DiskS} (h1 : D.n = D'.n) (h2 : ∀ i, i < D.n → D.sure.getD i [] = D'.sure.getD i []) (h3 : ∀ i, D.dirty i = D'.dirty i) (h4 : D.trip = D'.trip) (h5 : D.down = D'.down) (h6 : D.life = D'.life) : D = D' := by
  obtain ⟨s, d, t, dn, l⟩ := D
  obtain ⟨s', d', t', dn', l'⟩ := D'
  simp only [n] at *
  have hs : s = s' := by
    refine List.ext_getElem h1 ?_
    intro i hi hi'
    have := h2 i hi
    simpa [List.getD_eq_getElem?_getD, hi, hi'] using this
  have hd : d = d' := funext h3
  subst hs hd h4 h5 h6
  rfl
theorem settleL_all {D : DiskS} (l : List Nat) (h : ∀ i, D.dirty i ≠ none → i ∈ l) : D.settleL l = D.flushed := by
  obtain ⟨h1, h2, h3, h4, h5, h6⟩ := settleL_is l D
  refine ext' (by rw [h1]; simp [flushed, n]) ?_ ?_ h2 h3 h4
  · intro i hi
    rw [h1] at hi
    rw [h6 i hi]
    have e : D.flushed.sure.getD i [] = D.get i := by
      simp [flushed, List.getD_eq_getElem?_getD, hi]
    rw [e]
    split
    · rfl
    · rename_i hil
      have hd : D.dirty i = none := by
        cases hdi : D.dirty i with
        | none => rfl
        | some b => exact absurd (h i (by rw [hdi]; simp)) hil
      simp only [get, hd]
  · intro i
    rw [h5]
    simp only [flushed]
    split
    · rfl
    · rename_i hil
      cases hdi : D.dirty i with
      | none => rfl
      | some b => exact absurd (h i (by rw [hdi]; simp)) hil
end DiskS

section
variable {M : List Nat} {w : World} {d a m : Nat} {D : DiskS}
/-- One sector is made sure. -/
theorem DiskAt.settle1 (h : DiskAt M w d a m D) (k : Nat) (hk : k < D.n) {Mp : List (Int × Value)} {v : Value} {b : List UInt8} (hd : D.dirty k = some b) (hb : Bs M w v b)
    (hm1 : ∀ k v, mget Mp k = some v → 0 ≤ k ∧ ∃ b, D.dirty k.toNat = some b ∧ Bs M w v b) (hm2 : ∀ i : Nat, mget Mp (i : Int) = none → D.dirty i = none) (hnd : (mkeys Mp).Nodup)
    {w2 : World} (u : Upd [m] (w.setCell ⟨a, k, none⟩ v) w2) (hm : MapAt intKey w2 m (mdel Mp (k : Int))) : DiskAt M w2 d a m (D.settle1 k) := by
  obtain ⟨ok, mlt, dM, aM, mM, da, dm, am, ⟨cap, blk, hc⟩, ⟨vs, arr, hvs, hvv⟩, _⟩ := h
  have u1 : Upd [a] w (w.setCell ⟨a, k, none⟩ v) := (Upd.refl _ _).setCell _ (by simp)
  have u2 : Upd [a, m] w w2 := u1.trans' u (by simp) (by simp)
  have hS : ∀ x ∈ [a, m], x ∈ M ∨ w.heap.size ≤ x := by simp [aM, mM]
  have hg : D.get k = b := by simp only [DiskS.get, hd]
  refine ⟨⟨by rw [DiskS.settle1_n]; exact ok.n1, by rw [DiskS.settle1_n]; exact ok.n2, ?_, ?_, ok.t0, ok.t1, ok.l0, ok.l1⟩, fun x hx => u2.lt (mlt x hx), dM, aM, mM, da, dm, am,
    ⟨cap, by rw [DiskS.settle1_n]; exact u2.heap blk (by simp [da, dm]), by rw [DiskS.settle1_n]; exact hc⟩, ⟨vs.set k v, ?_, by rw [DiskS.settle1_n]; simpa using hvs, ?_⟩, ⟨_, hm, ?_, ?_⟩⟩
  · intro s hs
    simp only [DiskS.settle1] at hs
    rcases List.mem_or_eq_of_mem_set hs with h | h
    · exact ok.len s h
    · rw [h]; exact get_len ok k hk
  · intro i b' hb'
    rw [DiskS.settle1_n]
    simp only [DiskS.settle1] at hb'
    split at hb'
    · cases hb'
    · exact ok.dlen i b' hb'
  · refine u.heap ?_ (by simp [am])
    rw [heap_setCell_same _ arr]
    simp
  · intro i hi
    rw [DiskS.settle1_n] at hi
    by_cases hik : i = k
    · subst hik
      refine ⟨v, by rw [List.getElem?_set_self (by omega)], ?_⟩
      have : (D.settle1 i).sure.getD i [] = b := by
        have hi' : i < D.sure.length := hi
        simp [DiskS.settle1, List.getD_eq_getElem?_getD, hi', hg]
      rw [this]
      exact hb.upd u2 hS
    · obtain ⟨v', e, hv'⟩ := hvv i hi
      refine ⟨v', by rw [List.getElem?_set_ne (Ne.symm hik)]; exact e, ?_⟩
      have : (D.settle1 k).sure.getD i [] = D.sure.getD i [] := by
        simp [DiskS.settle1, List.getD_eq_getElem?_getD, List.getElem?_set_ne (Ne.symm hik)]
      rw [this]
      exact hv'.upd u2 hS
  · intro j v' hj
    rw [mget_mdel hnd] at hj
    split at hj
    · cases hj
    · rename_i e
      obtain ⟨h0, b', e', hb'⟩ := hm1 j v' hj
      refine ⟨h0, b', ?_, hb'.upd u2 hS⟩
      simp only [DiskS.settle1]
      rw [if_neg (by omega)]
      exact e'
  · intro i hi
    rw [mget_mdel hnd] at hi
    simp only [DiskS.settle1]
    split at hi
    · rename_i e
      rw [if_pos (by omega)]
    · rename_i e
      rw [if_neg (by omega)]
      exact hm2 i hi

theorem MapAt.nodup {κ : Type} [DecidableEq κ] {kf : κ → Value} {w : World} {m : Nat} {Mp : List (κ × Value)} (h : MapAt kf w m Mp) : (mkeys Mp).Nodup := by
  obtain ⟨es, c, hh, E⟩ := h
  exact E.nodup

theorem mget_of_mem {Mp : List (Int × Value)} {k : Int} (h : k ∈ mkeys Mp) : ∃ v, mget Mp k = some v := by
  cases hg : mget Mp k with
  | some v => exact ⟨v, rfl⟩
  | none => exact absurd h (mget_none.1 hg)
theorem mkeys_bound (h : DiskAt M w d a m D) {Mp : List (Int × Value)} (hm1 : ∀ k v, mget Mp k = some v → 0 ≤ k ∧ ∃ b, D.dirty k.toNat = some b ∧ Bs M w v b) : ∀ k ∈ mkeys Mp, 0 ≤ k ∧ k < D.n := by
  intro k hk
  obtain ⟨v, hv⟩ := mget_of_mem hk
  obtain ⟨h0, b, hb, _⟩ := hm1 k v hv
  have := (h.ok.dlen _ b hb).2
  omega
theorem nodup_len : ∀ (n : Nat) (l : List Nat), l.Nodup → (∀ x ∈ l, x < n) → l.length ≤ n
  | 0, l, _, h => by
    cases l with
    | nil => simp
    | cons x l => exact absurd (h x (by simp)) (by omega)
  | n + 1, l, hn, h => by
    have h1 := nodup_len n (l.erase n) (hn.erase n) (by
      intro x hx
      have hx2 := (hn.mem_erase_iff).1 hx
      have := h x hx2.2
      have := hx2.1
      omega)
    rw [List.length_erase] at h1
    split at h1 <;> omega
theorem keys_len {Mp : List (Int × Value)} {n : Nat} (hnd : (mkeys Mp).Nodup) (hr : ∀ k ∈ mkeys Mp, 0 ≤ k ∧ k < (n : Int)) : Mp.length ≤ n := by
  have h1 : ((mkeys Mp).map Int.toNat).Nodup := by
    rw [List.Nodup, List.pairwise_map]
    refine List.Pairwise.imp_of_mem ?_ hnd
    intro x y hx hy hxy he
    have := hr x hx
    have := hr y hy
    exact hxy (by omega)
  have h2 : ∀ x ∈ (mkeys Mp).map Int.toNat, x < n := by
    intro x hx
    obtain ⟨k, hk, rfl⟩ := List.mem_map.1 hx
    have := hr k hk
    omega
  have := nodup_len n _ h1 h2
  simpa [mkeys] using this

set_option maxRecDepth 100000 in
set_option maxHeartbeats 2000000 in
theorem settle_is (h : DiskAt M w d a m D) : Calls Tryd.prog 52 #[ptr d] w fun e w' => e = .returned (.tuple #[]) ∧ DiskAt M w' d a m D.flushed ∧ Upd [a, m] w w' := by
  obtain ⟨cap, blk, _, _⟩ := h.blk
  obtain ⟨Mp, hmp, hm1, hm2⟩ := h.map
  have hr := mkeys_bound h hm1
  have hn2 := h.ok.n2
  have hlen := keys_len hmp.nodup hr
  have hc1 := (cells5 blk).2.1
  have HK := Sd.mk (keys_is (some m) w)
  have HS := Sd.mk (sorted_is hmp (fun k hk => by have := hr k hk; omega) (by omega))
  have HH := Sd.mk h
  have HR := Sd.mk hr
  have HM1 := Sd.mk hm1
  have HM2 := Sd.mk hm2
  have HP := Sd.mk hmp
  clear h blk hmp hm1 hm2 hr
  go_enter Tryd.func52, Tryd.ntmps52
  go_wp2_with fail
  refine HK.out.mono ?_
  rintro e w1 ⟨rfl, rfl⟩
  go_wp2_with fail
  refine HS.out.mono ?_
  rintro e w1 ⟨v, ss, rfl, hp, hsrt, hO, hU⟩
  have hsl := hp.length_eq
  have hnn : ∀ k ∈ ss, 0 ≤ k ∧ k < D.n := fun k hk => HR.out k (hp.subset hk)
  have hssn : ss.Nodup := hp.nodup_iff.2 HP.out.nodup
  have hdirt : ∀ k ∈ ss, ∃ b, D.dirty k.toNat = some b := by
    intro k hk
    obtain ⟨v, hv⟩ := mget_of_mem (hp.subset hk)
    obtain ⟨_, b, hb, _⟩ := HM1.out k v hv
    exact ⟨b, hb⟩
  have hall : ∀ i, D.dirty i ≠ none → i ∈ ss.map Int.toNat := by
    intro i hi
    cases hg : mget Mp (i : Int) with
    | none => exact absurd (HM2.out i hg) hi
    | some v =>
      have : (i : Int) ∈ mkeys Mp := by
        refine Classical.byContradiction fun hc => ?_
        rw [mget_none.2 hc] at hg
        cases hg
      exact List.mem_map.2 ⟨i, hp.symm.subset this, by simp⟩
  have hknd : (ss.map Int.toNat).Nodup := by
    rw [List.Nodup, List.pairwise_map]
    refine List.Pairwise.imp_of_mem ?_ hssn
    intro x y hx hy hxy he
    have := hnn x hx
    have := hnn y hy
    exact hxy (by omega)
  have hrd := hO.rd M HH.out.mlt
  obtain ⟨A, c, rfl, hA⟩ : ∃ A c, v = .slice A ss.length c ∧ ∀ j (hj : j < ss.length), ∃ g, A = some ⟨g, 0, none⟩ ∧ w.heap.size ≤ g ∧ w1.cell? ⟨g, j, none⟩ = some (.int .i64 ss[j]) := by
    rcases hO.shape with ⟨rfl, h0⟩ | ⟨g, cap, rfl, hg, _⟩
    · have : ss = [] := by simpa using h0
      subst this
      exact ⟨none, 0, rfl, fun j hj => absurd hj (by simp)⟩
    · refine ⟨some ⟨g, 0, none⟩, cap, by simp, fun j hj => ⟨g, rfl, hg, ?_⟩⟩
      rcases hrd with ⟨h1, _⟩ | ⟨b, off, c, h1, _, _, _, _, h5⟩
      · cases h1
      · simp only [Value.slice.injEq, Option.some.injEq, Addr.mk.injEq] at h1
        obtain ⟨⟨rfl, rfl, _⟩, _⟩ := h1
        have := h5 j (intKey ss[j]) (by simp [hj])
        rw [Nat.zero_add] at this
        exact this
  have hsl2 : ss.length ≤ 4096 := by rw [mkeys, List.length_map] at hsl; omega
  have HA := Sd.mk hA
  have HU := Sd.mk hU
  have HD := Sd.mk hdirt
  have HN := Sd.mk hnn
  have HL := Sd.mk hall
  have HKN := Sd.mk hknd
  have HD1 := Sd.mk (HH.out.keep hU)
  have hlt := HH.out.lt
  clear hp hsrt hO hU hsl hnn hssn hdirt hall hknd hrd hA HK HS HM1 HM2 HP HR
  go_wp2
  go_loopg [11] ss.length (fun g k wr => ∃ j : Nat, k = .int .i64 j ∧ j ≤ ss.length ∧ Sd (g = ss.length - j) ∧ Sd (DiskAt M wr d a m (D.settleL ((ss.map Int.toNat).take j))) ∧ Sd (Upd [a, m] w1 wr))
  case atStart => exact ⟨0, rfl, by omega, ⟨rfl⟩, HD1, ⟨Upd.refl _ _⟩⟩
  case round =>
    obtain ⟨j, rfl, hj, hg, hD, hu⟩ := hrel
    by_cases hjl : j < ss.length
    · obtain ⟨g0, rfl, hg0, hcell⟩ := HA.out j hjl
      obtain ⟨k, hk⟩ : ∃ k : Nat, ss[j] = k := ⟨ss[j].toNat, by have := HN.out ss[j] (List.getElem_mem hjl); omega⟩
      have hkn : k < D.n := by have := HN.out ss[j] (List.getElem_mem hjl); omega
      rw [hk] at hcell
      have hcw := hu.out.cell hcell (by simp; omega)
      have hst := DiskS.settleL_is ((ss.map Int.toNat).take j) D
      have hnk : k ∉ (ss.map Int.toNat).take j := by
        intro hm
        obtain ⟨i, hi, he⟩ := List.mem_take_iff_getElem.1 hm
        have h1 : (ss.map Int.toNat)[j]'(by simpa using hjl) = k := by simp [hk]
        have := (List.nodup_iff_pairwise_ne.1 HKN.out)
        rw [List.pairwise_iff_getElem] at this
        exact this i j (by omega) (by simpa using hjl) (by omega) (by rw [he, h1])
      obtain ⟨b, hb⟩ := HD.out ss[j] (List.getElem_mem hjl)
      rw [hk, Int.toNat_natCast] at hb
      have hbj : (D.settleL ((ss.map Int.toNat).take j)).dirty k = some b := by rw [hst.2.2.2.2.1, if_neg hnk, hb]
      have hnj := hst.1
      have hsucc : D.settleL ((ss.map Int.toNat).take (j + 1)) = (D.settleL ((ss.map Int.toNat).take j)).settle1 k := by
        rw [List.take_succ_eq_append_getElem (by simpa using hjl), DiskS.settleL_snoc]
        simp [hk]
      obtain ⟨Dj, hDj⟩ : ∃ Dj, Dj = D.settleL ((ss.map Int.toNat).take j) := ⟨_, rfl⟩
      rw [← hDj] at hD hbj hnj hsucc
      have HSU := Sd.mk hsucc
      have HBJ := Sd.mk hbj
      obtain ⟨capj, blk, _, _⟩ := hD.out.blk
      obtain ⟨vs, arr, hvl, hvs⟩ := hD.out.arr
      obtain ⟨Mj, hmp, hm1, hm2⟩ := hD.out.map
      obtain ⟨v, hv⟩ : ∃ v, mget Mj (k : Int) = some v := by
        cases hg : mget Mj (k : Int) with
        | some v => exact ⟨v, rfl⟩
        | none => rw [hm2 k hg] at hbj; cases hbj
      have hlk : (Instr.lookup 75 (.map (some m)) (.int .i64 (k : Int)) false).run Tryd.prog wr.drew = .ok v wr.drew := run_lookup_some intKeyOk undMapB (w := wr.drew) hmp (k : Int) v hv false
      obtain ⟨_, b', hb', hbs⟩ := hm1 _ v hv
      rw [Int.toNat_natCast, hbj] at hb'
      cases hb'
      obtain ⟨A1, c1, rfl⟩ := hbs.isSlice
      have hkj : k < Dj.n := by omega
      obtain ⟨vo, hvo, _⟩ := hvs k hkj
      have hav : wr.cell? ⟨a, k, none⟩ = some vo := cell_of arr (by simpa using hvo)
      have hfa : wr.frozen? ⟨a, k, none⟩ = false := free_of arr k
      have hc0 := (cells5 blk).1
      have hc1' := (cells5 blk).2.1
      have hda := hD.out.da
      have had := Ne.symm hda
      have hk0 : (0 : Int) ≤ (k : Int) := by omega
      have hk1 : (k : Int) < (Dj.n : Int) := by omega
      have HBS := Sd.mk hbs
      have HM1 := Sd.mk hm1
      have HM2 := Sd.mk hm2
      have HMP := Sd.mk hmp
      clear hst hnk hb hbj hnj hsucc hDj blk arr hvl hvs hmp hm1 hm2 hv hbs hvo hk hcell hkn hc1
      go_wp2
      go_still_tail 12, (by kernel_rfl)
      go_wp2_with (at_delete; refine wpList_mapDel intKeyOk rfl _ _ _ rfl undMapB m Mj (k : Int) rfl rfl ((HMP.out.upd ((Upd.refl [] wr).drew) (by simp)).upd ((Upd.refl [a] wr.drew).setCell (p := ⟨a, k, none⟩) (.slice A1 b.length c1) (.inl (by simp))) (by simp [Ne.symm hD.out.am])) ?_)
      intro w2 hm2 hu2
      have H1 := Sd.mk hm2
      have H2 := Sd.mk hu2
      clear hm2 hu2
      go_wp2
      go_roundg (ss.length - (j + 1))
      case measure => rw [hg.out]; omega
      case rel =>
        have u1 : Upd [a] wr (wr.drew.setCell ⟨a, k, none⟩ (.slice A1 b.length c1)) := (Upd.refl [a] wr).drew.setCell _ (.inl (by simp))
        have hx := (hD.out.keep (Upd.refl [] wr).drew).settle1 k hkj HBJ.out (HBS.out.keep (Upd.refl [] wr).drew) (fun k v h => let ⟨h0, b, e, hb⟩ := HM1.out k v h; ⟨h0, b, e, hb.keep (Upd.refl [] wr).drew⟩) HM2.out HMP.out.nodup H2.out H1.out
        exact ⟨j + 1, by go_num, by omega, ⟨rfl⟩, ⟨by rw [HSU.out]; exact hx⟩, ⟨hu.out.trans' (u1.trans' (U := [a, m]) H2.out (by simp) (by simp)) (by simp) (by simp)⟩⟩
    · obtain rfl : j = ss.length := by omega
      go_wp2
      go_end0
      have h := hD.out
      rw [List.take_of_length_le (by simp), DiskS.settleL_all _ HL.out] at h
      exact ⟨rfl, h, HU.out.then hu.out⟩

namespace DiskS
def flushE (D : DiskS) : Int := if D.down then 7 else if D.trip = 1 then 7 else 0
def flush (D : DiskS) : DiskS := if D.down then D else if D.trip = 1 then D.trip1 else D.trip0.flushed
theorem powered0 {D : DiskS} (ok : D.Ok) : D.powered 0 = if D.down then 7 else 0 := by
  have := ok.n1
  unfold powered
  split
  · rfl
  · rw [if_neg (by omega)]
end DiskS
set_option maxRecDepth 100000 in
set_option maxHeartbeats 2000000 in
theorem flush_is (h : DiskAt M w d a m D) : Calls Tryd.prog 35 #[ptr d] w fun e w' => e = .returned (.int .i64 D.flushE) ∧ DiskAt M w' d a m D.flush ∧ Upd [d, a, m] w w' := by
  have HP := Sd.mk (powered_is h 0 (by decide) (by decide))
  have HP0 := Sd.mk (DiskS.powered0 h.ok)
  have HH := Sd.mk h
  clear h
  cases hdn : D.down with
  | true =>
    have HP' := Sd.mk (show D.powered 0 = 7 by rw [HP0.out, hdn]; rfl)
    have HF := Sd.mk (show D.flushE = 7 ∧ D.flush = D by simp [DiskS.flushE, DiskS.flush, hdn])
    clear hdn
    go_enter Tryd.func35, Tryd.ntmps35
    go_wp2_with (go_at_call 50; refine HP.out.mono ?_; rw [HP'.out]; rintro e w' ⟨rfl, rfl⟩)
    go_ret
    exact ⟨by rw [HF.out.1]; rfl, by rw [HF.out.2]; exact HH.out, Upd.refl _ _⟩
  | false =>
    have HP' := Sd.mk (show D.powered 0 = 0 by rw [HP0.out, hdn]; rfl)
    have HF := Sd.mk (show D.flushE = (if D.trip = 1 then 7 else 0) ∧ D.flush = if D.trip = 1 then D.trip1 else D.trip0.flushed by simp [DiskS.flushE, DiskS.flush, hdn])
    clear hdn
    by_cases ht : D.trip = 1
    · have HT := Sd.mk ht
      clear ht
      go_enter Tryd.func35, Tryd.ntmps35
      go_wp2_with (go_at_call 50; refine HP.out.mono ?_; rw [HP'.out]; rintro e w' ⟨rfl, rfl⟩)
      refine (trips_down HH.out _ HT.out).mono ?_
      rintro e w2 ⟨rfl, hD, hU⟩
      have H1 := Sd.mk hD
      have H2 := Sd.mk hU
      clear hD hU
      go_wp2
      go_ret
      exact ⟨by rw [HF.out.1, if_pos HT.out]; rfl, by rw [HF.out.2, if_pos HT.out]; exact H1.out, H2.out.mono (by simp)⟩
    · have HT := Sd.mk ht
      clear ht
      go_enter Tryd.func35, Tryd.ntmps35
      go_wp2_with (go_at_call 50; refine HP.out.mono ?_; rw [HP'.out]; rintro e w' ⟨rfl, rfl⟩)
      refine (trips_go HH.out _ _ _ HT.out (fun w' => DiskAt M w' d a m D.trip0.flushed ∧ Upd [d, a, m] w w') ?_ ?_).mono ?_
      · intro w2 hD2 hU2
        refine (settle_is hD2).mono ?_
        rintro e w' ⟨rfl, hD, hU⟩
        exact ⟨rfl, hD, hU2.trans' hU (by simp) (by simp)⟩
      · intro args w
        kernel_rfl
      · rintro e w2 ⟨rfl, hD, hU⟩
        have H1 := Sd.mk hD
        have H2 := Sd.mk hU
        clear hD hU
        go_wp2
        go_ret
        exact ⟨by rw [HF.out.1, if_neg HT.out]; rfl, by rw [HF.out.2, if_neg HT.out]; exact H1.out, H2.out⟩
set_option maxRecDepth 100000 in
set_option maxHeartbeats 2000000 in
/-- The dirty sectors' numbers, sorted. -/
theorem dirty_is (h : DiskAt M w d a m D) : Calls Tryd.prog 28 #[ptr d] w fun e w' => ∃ (v : Value) (ss : List Nat), e = .returned v ∧ ss.Nodup ∧ ss.Pairwise (· ≤ ·) ∧ (∀ i, i ∈ ss ↔ D.dirty i ≠ none) ∧ Ow 3 w.heap.size w' v (ss.map fun i : Nat => .int .i64 (i : Int)) ∧ Upd [] w w' := by
  obtain ⟨cap, blk, _, _⟩ := h.blk
  obtain ⟨Mp, hmp, hm1, hm2⟩ := h.map
  have hr := mkeys_bound h hm1
  have hn2 := h.ok.n2
  have hlen := keys_len hmp.nodup hr
  have hc1 := (cells5 blk).2.1
  have HK := Sd.mk (keys_is (some m) w)
  have HS := Sd.mk (sorted_is hmp (fun k hk => by have := hr k hk; omega) (by omega))
  have HH := Sd.mk h
  have HR := Sd.mk hr
  have HM1 := Sd.mk hm1
  have HM2 := Sd.mk hm2
  have HP := Sd.mk hmp
  clear h blk hmp hm1 hm2 hr
  go_enter Tryd.func28, Tryd.ntmps28
  go_wp2_with fail
  refine HK.out.mono ?_
  rintro e w1 ⟨rfl, rfl⟩
  go_wp2_with fail
  refine HS.out.mono ?_
  rintro e w1 ⟨v, ss, rfl, hp, hsrt, hO, hU⟩
  have H1 := Sd.mk hp
  have H2 := Sd.mk hsrt
  have H3 := Sd.mk hO
  have H4 := Sd.mk hU
  clear hp hsrt hO hU
  go_wp2
  go_ret
  have hnn : ∀ k ∈ ss, 0 ≤ k ∧ k < D.n := fun k hk => HR.out k (H1.out.subset hk)
  have e1 : (ss.map Int.toNat).map (fun i : Nat => Value.int .i64 (i : Int)) = ss.map intKey := by
    rw [List.map_map]
    refine List.map_congr_left ?_
    intro k hk
    have := hnn k hk
    simp only [Function.comp, intKey]
    congr 1
    omega
  refine ⟨v, ss.map Int.toNat, rfl, ?_, ?_, ?_, by rw [e1]; exact H3.out, H4.out⟩
  · rw [List.Nodup, List.pairwise_map]
    refine List.Pairwise.imp_of_mem ?_ (H1.out.nodup_iff.2 HP.out.nodup)
    intro x y hx hy hxy he
    have := hnn x hx
    have := hnn y hy
    exact hxy (by omega)
  · rw [List.pairwise_map]
    refine List.Pairwise.imp_of_mem ?_ H2.out
    intro x y hx hy hxy
    have := hnn x hx
    have := hnn y hy
    omega
  · intro i
    constructor
    · intro hi
      obtain ⟨k, hk, rfl⟩ := List.mem_map.1 hi
      obtain ⟨v, hv⟩ := mget_of_mem (H1.out.subset hk)
      obtain ⟨_, b, hb, _⟩ := HM1.out k v hv
      rw [hb]; simp
    · intro hi
      cases hg : mget Mp (i : Int) with
      | none => exact absurd (HM2.out i hg) hi
      | some v =>
        have : (i : Int) ∈ mkeys Mp := by
          refine Classical.byContradiction fun hc => ?_
          rw [mget_none.2 hc] at hg
          cases hg
        exact List.mem_map.2 ⟨i, H1.out.symm.subset this, by simp⟩
end
end Go.Proofs.YtpcndlipdfcnfaaDoor
