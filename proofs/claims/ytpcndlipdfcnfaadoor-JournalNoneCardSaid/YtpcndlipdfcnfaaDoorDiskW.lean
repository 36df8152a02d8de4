/- The disk: Write, Trip. -/
import Derived.Test.YtpcndlipdfcnfaaDoorDisk
import Derived.StillTailTactics
namespace Go.Proofs.YtpcndlipdfcnfaaDoor
open Go Go.RowKit

def pad (l : List UInt8) : List UInt8 := l ++ List.replicate (128 - l.length) 0
theorem pad_len {l : List UInt8} (h : l.length ≤ 128) : (pad l).length = 128 := by simp [pad]; omega

set_option maxRecDepth 100000 in
set_option maxHeartbeats 1000000 in
theorem whole_is {M : List Nat} {w : World} {v : Value} {l : List UInt8} (hv : Bs M w v l) (hl : l.length ≤ 128) :
    Calls Tryd.prog 65 #[v] w fun e w' => ∃ v', e = .returned v' ∧ OwB w.heap.size w' v' (pad l) ∧ Upd [] w w' := by
  have HC := Sd.mk (clone_any hv (by omega))
  obtain ⟨A, c, rfl, hA⟩ : ∃ A c, v = .slice A l.length c ∧ l.length ≤ 128 := by
    rcases hv.cases with ⟨rfl, rfl⟩ | ⟨b, off, c, rfl, _⟩
    · exact ⟨none, 0, rfl, hl⟩
    · exact ⟨_, c, rfl, hl⟩
  clear hv hA
  go_enter Tryd.func65, Tryd.ntmps65
  go_wp2_with fail
  refine HC.out.mono ?_
  rintro e w1 ⟨v1, rfl, hO, hU, hnil⟩
  have HO := Sd.mk hO
  have HU := Sd.mk hU
  clear hO hU hnil
  go_wp2_with (at_builtin; refine wpList_appZ rfl _ _ rfl w.heap.size v1 l rfl HO.out ((128 : Int) - l.length) (128 - l.length) rfl (by omega) (by omega) HU.out.size ?_)
  intro v2 w2 hO2 hU2
  have HO2 := Sd.mk hO2
  have HU2 := Sd.mk hU2
  clear hO2 hU2
  go_wp2
  go_ret
  exact ⟨v2, rfl, HO2.out, HU.out.trans' HU2.out (by simp) (fun x hx => .inr (Ow.block HO.out x hx))⟩

namespace DiskS
/-- The power goes, or the count goes on. -/
def trip1 (D : DiskS) : DiskS := { D with trip := 0, down := true }
def trip0 (D : DiskS) : DiskS := { D with trip := max (D.trip - 1) 0 }
def put (D : DiskS) (i : Nat) (b : List UInt8) : DiskS := { D with dirty := fun k => if k = i then some b else D.dirty k }
def writeE (D : DiskS) (i : Int) (b : List UInt8) : Int := if D.powered i ≠ 0 then D.powered i else if 128 < b.length then 6 else if D.trip = 1 then 7 else 0
def write (D : DiskS) (i : Int) (b : List UInt8) : DiskS := if D.powered i ≠ 0 then D else if 128 < b.length then D else if D.trip = 1 then D.trip1 else D.trip0.put i.toNat (pad b)
end DiskS

section
variable {M : List Nat} {w : World} {d a m : Nat} {D : DiskS}
theorem DiskAt.setFlags (h : DiskAt M w d a m D) {w' : World} (u : Upd [d] w w') (t : Int) (dn : Bool) (ht0 : 0 ≤ t) (ht1 : t ≤ 9223372036854775807)
    (hb : ∀ c0 c1 c2 c3 c4 T, w.heap[d]? = some (.cells #[c0, c1, c2, c3, c4] T (0, 0)) → w'.heap[d]? = some (.cells #[c0, c1, .int .i64 t, .bool dn, c4] T (0, 0))) : DiskAt M w' d a m { D with trip := t, down := dn } := by
  obtain ⟨ok, mlt, dM, aM, mM, da, dm, am, ⟨cap, blk, hc⟩, ⟨vs, arr, hvs, hv⟩, ⟨Mp, mp, h1, h2⟩⟩ := h
  have hS : ∀ x ∈ [d], x ∈ M ∨ w.heap.size ≤ x := by simp [dM]
  refine ⟨⟨ok.n1, ok.n2, ok.len, ok.dlen, ht0, ht1, ok.l0, ok.l1⟩, fun x hx => u.lt (mlt x hx), dM, aM, mM, da, dm, am, ⟨cap, hb _ _ _ _ _ _ blk, hc⟩,
    ⟨vs, u.heap arr (by simp [Ne.symm da]), hvs, fun i hi => let ⟨v, e, hb⟩ := hv i hi; ⟨v, e, hb.upd u hS⟩⟩,
    ⟨Mp, mp.upd u (by simp [Ne.symm dm]), fun k v hk => let ⟨h0, b, e, hb⟩ := h1 k v hk; ⟨h0, b, e, hb.upd u hS⟩, h2⟩⟩

theorem DiskAt.setTrip (h : DiskAt M w d a m D) {T' : Value} (t : Int) (ht : t = max (D.trip - 1) 0) (ht0 : 0 ≤ t) (ht1 : t ≤ 9223372036854775807) : DiskAt M ((w.setCell ⟨d, 2, none⟩ T').setCell ⟨d, 2, none⟩ (.int .i64 t)) d a m D.trip0 := by
  subst ht
  refine h.setFlags (((Upd.refl _ _).setCell _ (by simp)).setCell _ (by simp)) _ D.down ht0 ht1 ?_
  intro c0 c1 c2 c3 c4 T hb
  obtain ⟨cap, blk, _⟩ := h.blk
  rw [blk] at hb
  cases hb
  rw [heap_setCell_same _ (heap_setCell_same _ blk)]
  rfl

set_option maxRecDepth 100000 in
set_option maxHeartbeats 1000000 in
theorem trips_down (h : DiskAt M w d a m D) (f : Value) (ht : D.trip = 1) : Calls Tryd.prog 51 #[ptr d, f] w fun e w' => e = .returned (.int .i64 7) ∧ DiskAt M w' d a m D.trip1 ∧ Upd [d] w w' := by
  obtain ⟨cap, blk, _, _⟩ := h.blk
  have hc2 := (cells5 blk).2.2.1
  have hc3 := (cells5 blk).2.2.2.1
  have hf := (cells5 blk).2.2.2.2.2
  rw [ht] at hc2
  have HH := Sd.mk h
  clear h blk ht
  go_enter Tryd.func51, Tryd.ntmps51
  go_wp2
  go_ret
  have u : Upd [d] w ((w.setCell ⟨d, 2, none⟩ (.int .i64 0)).setCell ⟨d, 3, none⟩ (.bool true)) := ((Upd.refl _ _).setCell _ (by simp)).setCell _ (by simp)
  refine ⟨rfl, HH.out.setFlags u 0 true (by omega) (by omega) ?_, u⟩
  intro c0 c1 c2 c3 c4 T hb
  rw [heap_setCell_same _ (heap_setCell_same _ hb)]
  rfl

set_option maxRecDepth 100000 in
set_option maxHeartbeats 1000000 in
/-- trips(f), the power staying: f is called in a world whose count has gone on. -/
theorem trips_go (h : DiskAt M w d a m D) (g : FuncId) (p q : Array Value) (ht : D.trip ≠ 1) (R : World → Prop)
    (hf : ∀ w1, DiskAt M w1 d a m D.trip0 → Upd [d] w w1 → Calls Tryd.prog g (p ++ q) w1 fun e w' => e = .returned (.tuple #[]) ∧ R w')
    (hg : ∀ args w, (callFunc g args).run Tryd.prog w = .ok (.enter g args) w) :
    Calls Tryd.prog 51 #[ptr d, .func (.func g) p q] w fun e w' => e = .returned (.int .i64 0) ∧ R w' := by
  obtain ⟨cap, blk, _, _⟩ := h.blk
  have hc2 := (cells5 blk).2.2.1
  have hfz := (cells5 blk).2.2.2.2.2
  have t0 := h.ok.t0
  have t1 := h.ok.t1
  have HH := Sd.mk h
  have HF := Sd.mk hf
  have HT := Sd.mk ht
  have htb : (D.trip - 1 == 0) = false := by rw [beq_eq_false_iff_ne]; omega
  clear h blk ht hf
  go_enter Tryd.func51, Tryd.ntmps51
  go_wp2_with fail
  · refine (HF.out _ (HH.out.setTrip 0 (by omega) (by omega) (by omega)) (((Upd.refl _ _).setCell _ (by simp)).setCell _ (by simp))).mono ?_
    rintro e w2 ⟨rfl, hr⟩
    have HR := Sd.mk hr
    clear hr
    go_wp2
    go_ret
    exact ⟨rfl, HR.out⟩
  · refine (HF.out _ (HH.out.setTrip (D.trip - 1) (by omega) (by omega) (by omega)) (((Upd.refl _ _).setCell _ (by simp)).setCell _ (by simp))).mono ?_
    rintro e w2 ⟨rfl, hr⟩
    have HR := Sd.mk hr
    clear hr
    go_wp2
    go_ret
    exact ⟨rfl, HR.out⟩

/-- Write's own function: the bytes lie in the map. -/
theorem DiskAt.putB (h : DiskAt M w d a m D) {w' : World} (k : Nat) (hk : k < D.n) {v : Value} {b : List UInt8} (hv : Bs M w v b) (hb : b.length = 128) (u : Upd [m] w w')
    (Mp : List (Int × Value)) (h1 : ∀ k v, mget Mp k = some v → 0 ≤ k ∧ ∃ b, D.dirty k.toNat = some b ∧ Bs M w v b) (h2 : ∀ i : Nat, mget Mp (i : Int) = none → D.dirty i = none)
    (hm : MapAt intKey w' m (mset Mp (k : Int) v)) : DiskAt M w' d a m (D.put k b) := by
  obtain ⟨ok, mlt, dM, aM, mM, da, dm, am, ⟨cap, blk, hc⟩, ⟨vs, arr, hvs, hvv⟩, _⟩ := h
  have hS : ∀ x ∈ [m], x ∈ M ∨ w.heap.size ≤ x := by simp [mM]
  refine ⟨⟨ok.n1, ok.n2, ok.len, ?_, ok.t0, ok.t1, ok.l0, ok.l1⟩, fun x hx => u.lt (mlt x hx), dM, aM, mM, da, dm, am, ⟨cap, u.heap blk (by simp [dm]), hc⟩,
    ⟨vs, u.heap arr (by simp [am]), hvs, fun i hi => let ⟨v, e, hb⟩ := hvv i hi; ⟨v, e, hb.upd u hS⟩⟩, ⟨_, hm, ?_, ?_⟩⟩
  · intro i b' hb'
    simp only [DiskS.put] at hb'
    split at hb'
    · rename_i e
      cases hb'
      subst e
      exact ⟨hb, hk⟩
    · exact ok.dlen i b' hb'
  · intro j v' hj
    rw [mget_mset] at hj
    simp only [DiskS.put]
    split at hj
    · rename_i e
      subst e
      cases hj
      exact ⟨by omega, b, by simp, hv.upd u hS⟩
    · rename_i e
      obtain ⟨h0, b', e', hb'⟩ := h1 j v' hj
      refine ⟨h0, b', ?_, hb'.upd u hS⟩
      rw [if_neg (by omega)]
      exact e'
  · intro i hi
    rw [mget_mset] at hi
    simp only [DiskS.put]
    split at hi
    · cases hi
    · rename_i e
      rw [if_neg (by omega)]
      exact h2 i hi

set_option maxRecDepth 100000 in
set_option maxHeartbeats 1000000 in
theorem write1_is (h : DiskAt M w d a m D) (k : Nat) (hk : k < D.n) {v : Value} {b : List UInt8} (hv : Bs M w v b) (hb : b.length = 128) (b0 b1 b2 : Nat)
    (h0 : w.cell? ⟨b0, 0, none⟩ = some v) (h1 : w.cell? ⟨b1, 0, none⟩ = some (ptr d)) (h2 : w.cell? ⟨b2, 0, none⟩ = some (.int .i64 k)) :
    Calls Tryd.prog 66 #[ptr b0, ptr b1, ptr b2] w fun e w' => e = .returned (.tuple #[]) ∧ DiskAt M w' d a m (D.put k b) ∧ Upd [m] w w' := by
  obtain ⟨cap, blk, _, _⟩ := h.blk
  obtain ⟨Mp, hmp, hm1, hm2⟩ := h.map
  have hc1 := (cells5 blk).2.1
  have HH := Sd.mk h
  have HV := Sd.mk hv
  have HB := Sd.mk hb
  have HM := Sd.mk hmp
  have HM1 := Sd.mk hm1
  have HM2 := Sd.mk hm2
  obtain ⟨A, n, c, rfl⟩ : ∃ A n c, v = .slice A n c := by
    rcases hv.cases with ⟨rfl, rfl⟩ | ⟨b, off, c, rfl, _⟩
    · exact ⟨_, _, _, rfl⟩
    · exact ⟨_, _, _, rfl⟩
  clear h blk hv hb hmp hm1 hm2
  go_enter Tryd.func66, Tryd.ntmps66
  go_wp2_with fail
  go_still_tail 6, (by kernel_rfl)
  refine wpList_mapSet intKeyOk rfl _ _ _ _ rfl undMapB m Mp (k : Int) _ rfl rfl rfl HM.out ?_
  intro w1 hm1 hu1
  have H1 := Sd.mk hm1
  have H2 := Sd.mk hu1
  clear hm1 hu1
  go_wp2
  go_end0
  exact ⟨rfl, HH.out.putB k hk HV.out HB.out (Upd.ofDrew (a := w) H2.out) Mp HM1.out HM2.out H1.out, Upd.ofDrew (a := w) H2.out⟩

theorem notPowered {i : Int} {b : List UInt8} (h : D.powered i ≠ 0) : D.writeE i b = D.powered i ∧ D.write i b = D := by simp [DiskS.writeE, DiskS.write, h]

set_option maxRecDepth 100000 in
set_option maxHeartbeats 2000000 in
/-- Write. -/
theorem write_is (h : DiskAt M w d a m D) (i : Int) (hi : -9223372036854775808 ≤ i) (hi' : i ≤ 9223372036854775807) {v : Value} {b : List UInt8} (hv : Bs M w v b) :
    Calls Tryd.prog 48 #[ptr d, .int .i64 i, v] w fun e w' => e = .returned (.int .i64 (D.writeE i b)) ∧ DiskAt M w' d a m (D.write i b) ∧ Upd [d, m] w w' := by
  have HP := Sd.mk (fun o1 o2 => powered_is (h.keep (((Upd.refl _ w).alloc o1).alloc o2)) i hi hi')
  have HH := Sd.mk h
  have HV := Sd.mk hv
  obtain ⟨A, c, rfl⟩ : ∃ A c, v = .slice A b.length c := by
    rcases hv.cases with ⟨rfl, rfl⟩ | ⟨b, off, c, rfl, _⟩
    · exact ⟨_, _, rfl⟩
    · exact ⟨_, _, rfl⟩
  have hbl : b.length ≤ 9223372036854775807 := hv.len
  clear hv h
  by_cases hp : D.powered i = 0
  · have HP' := Sd.mk hp
    have hrg := powered_zero hp
    by_cases hlen : 128 < b.length
    · clear hp hrg
      have u : Upd [d, m] w ((w.alloc (.cells #[ptr d] 34)).alloc (.cells #[.int .i64 i] 3)) := ((Upd.refl _ w).alloc _).alloc _
      go_enter Tryd.func48, Tryd.ntmps48
      go_wp2_with (go_at_call 50; refine (HP.out _ _).mono ?_; rw [HP'.out]; rintro e w' ⟨rfl, rfl⟩)
      go_ret
      exact ⟨by simp [DiskS.writeE, HP'.out, hlen], by simp only [DiskS.write, HP'.out, hlen, ne_eq, not_true_eq_false, if_false, if_true]; exact HH.out.keep (((Upd.refl _ w).alloc _).alloc _), u⟩
    · have hlen' : b.length ≤ 128 := by omega
      clear hp
      obtain ⟨k, rfl⟩ : ∃ k : Nat, i = k := ⟨i.toNat, by omega⟩
      have hk : k < D.n := by omega
      have HW := Sd.mk (whole_is (HV.out.keep (((Upd.refl [] w).alloc (.cells #[ptr d] 34)).alloc (.cells #[.int .i64 k] 3))) hlen')
      have hnl : ¬ (128 < b.length) := by omega
      have HE := Sd.mk (show D.writeE (k : Int) b = if D.trip = 1 then 7 else 0 by simp [DiskS.writeE, HP'.out, hnl])
      have HD := Sd.mk (show D.write (k : Int) b = if D.trip = 1 then D.trip1 else D.trip0.put k (pad b) by simp [DiskS.write, HP'.out, hnl])
      clear hrg hlen hnl hi hi'
      have hu0 := ((Upd.refl [] w).alloc (.cells #[ptr d] 34)).alloc (.cells #[.int .i64 k] 3)
      have hc0 : ((w.alloc (.cells #[ptr d] 34)).alloc (.cells #[.int .i64 k] 3)).cell? ⟨w.heap.size, 0, none⟩ = some (ptr d) := by
        rw [World.cell?_alloc_past _ _ _ (by simp)]; simp
      have hc1 : ((w.alloc (.cells #[ptr d] 34)).alloc (.cells #[.int .i64 k] 3)).cell? ⟨w.heap.size + 1, 0, none⟩ = some (.int .i64 k) := by
        rw [World.cell?_alloc_at _ _ _ _ (by simp)]; rfl
      have HU0 := Sd.mk hu0
      have HC0 := Sd.mk hc0
      have HC1 := Sd.mk hc1
      clear hu0 hc0 hc1
      go_enter Tryd.func48, Tryd.ntmps48
      go_wp2_with (go_at_call 50; refine (HP.out _ _).mono ?_; rw [HP'.out]; rintro e w' ⟨rfl, rfl⟩)
      refine HW.out.mono ?_
      rintro e w1 ⟨v1, rfl, hO, hU⟩
      obtain ⟨A1, c1, rfl⟩ := hO.isSlice
      have hz : w.heap.size + 1 < w1.heap.size := by have := hU.size; simp at this; omega
      have hz0 : w.heap.size < w1.heap.size := by omega
      have hc0 := hU.cell HC0.out (by simp)
      have hc1 := hU.cell HC1.out (by simp)
      have HU1 := Sd.mk (HU0.out.trans hU)
      have HO := Sd.mk hO
      clear hO hU HU0 HC0 HC1
      have HD1 := Sd.mk (HH.out.keep HU1.out)
      by_cases ht : D.trip = 1
      · have HT := Sd.mk ht
        clear ht
        go_wp2_with fail
        refine (trips_down (HD1.out.keep ((Upd.refl [] _).alloc _)) _ HT.out).mono ?_
        rintro e w2 ⟨rfl, hD, hU⟩
        have H1 := Sd.mk hD
        have H2 := Sd.mk hU
        clear hD hU
        go_wp2
        go_ret
        have u : Upd [d, m] w w2 := (HU1.out.alloc _).trans' H2.out (by simp) (by simp)
        exact ⟨by rw [HE.out, if_pos HT.out]; rfl, by rw [HD.out, if_pos HT.out]; exact H1.out, u⟩
      · have HT := Sd.mk ht
        clear ht
        go_wp2_with fail
        refine (trips_go (HD1.out.keep ((Upd.refl [] _).alloc _)) _ _ _ HT.out (fun w' => DiskAt M w' d a m (D.trip0.put k (pad b)) ∧ Upd [d, m] w w') ?_ ?_).mono ?_
        · intro w2 hD2 hU2
          have hu3 : Upd [d] w1 w2 := ((Upd.refl [] w1).alloc _).then hU2
          have hd := HH.out.lt.1
          have hB : Bs M w2 (.slice A1 (pad b).length c1) (pad b) := (HO.out.bs M (fun x hx => by have := HH.out.mlt x hx; simp; omega)).upd hu3 (fun x hx => by
            simp only [List.mem_singleton] at hx
            subst hx
            exact .inl HH.out.dM)
          refine (write1_is hD2 k hk hB (pad_len hlen') w1.heap.size w.heap.size (w.heap.size + 1) (hU2.cell ?_ (by simp; omega)) (hu3.cell hc0 (by simp; omega)) (hu3.cell hc1 (by simp; omega))).mono ?_
          · exact cell_of (heap_alloc_new w1 _) rfl
          · rintro e w' ⟨rfl, hD, hU⟩
            exact ⟨rfl, hD, (HU1.out.then hu3).trans' hU (by simp) (by simp)⟩
        · intro args w
          kernel_rfl
        · rintro e w2 ⟨rfl, hD, hU⟩
          have H1 := Sd.mk hD
          have H2 := Sd.mk hU
          clear hD hU
          go_wp2
          go_ret
          exact ⟨by rw [HE.out, if_neg HT.out]; rfl, by rw [HD.out, if_neg HT.out]; exact H1.out, H2.out⟩
  · have hb := powered_ne hp
    have HN := Sd.mk (notPowered (b := b) hp)
    obtain ⟨q, hq⟩ : ∃ q, q = D.powered i := ⟨_, rfl⟩
    rw [← hq] at hb HP
    have HQ := Sd.mk hq
    clear hq hp
    go_enter Tryd.func48, Tryd.ntmps48
    go_wp2_with (go_at_call 50; refine (HP.out _ _).mono ?_; rintro e w' ⟨rfl, rfl⟩)
    go_ret
    have u : Upd [d, m] w ((w.alloc (.cells #[ptr d] 34)).alloc (.cells #[.int .i64 i] 3)) := ((Upd.refl _ w).alloc _).alloc _
    exact ⟨by rw [HN.out.1, HQ.out]; rfl, by rw [HN.out.2]; exact HH.out.keep (((Upd.refl _ w).alloc _).alloc _), u⟩
end
end Go.Proofs.YtpcndlipdfcnfaaDoor
