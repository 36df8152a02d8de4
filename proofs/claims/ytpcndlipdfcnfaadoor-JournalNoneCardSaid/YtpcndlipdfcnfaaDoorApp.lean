/- More appends. -/
import Derived.Test.YtpcndlipdfcnfaaDoorBytes
import Derived.ArgAppend
namespace Go.Proofs.YtpcndlipdfcnfaaDoor
open Go Go.RowKit

theorem bs_out {S : List Nat} {w : World} {b off n c : Nat} {l : List UInt8} (h : Bs [] w (.slice (some ⟨b, off, none⟩) n c) l) (hS : b ∉ S) : Bs S w (.slice (some ⟨b, off, none⟩) n c) l := by
  rcases h.cases with ⟨h1, _⟩ | ⟨b', off', c', h1, h2, h3, _, h5, h6⟩
  · cases h1
  · simp only [Value.slice.injEq, Option.some.injEq, Addr.mk.injEq] at h1
    obtain ⟨⟨rfl, rfl, _⟩, rfl, rfl⟩ := h1
    exact Bs.mk h2 h3 hS h5 h6
theorem bs_at {M : List Nat} {w : World} {b off n c : Nat} {l : List UInt8} (h : Bs M w (.slice (some ⟨b, off, none⟩) n c) l) : n = l.length ∧ n ≤ c ∧ c ≤ maxLen ∧ ∀ j x, l[j]? = some x → w.cell? ⟨b, off + j, none⟩ = some (u8v x) := by
  rcases h.cases with ⟨h1, _⟩ | ⟨b', off', c', h1, h2, h3, _, h5, h6⟩
  · cases h1
  · simp only [Value.slice.injEq, Option.some.injEq, Addr.mk.injEq] at h1
    obtain ⟨⟨rfl, rfl, _⟩, rfl, rfl⟩ := h1
    exact ⟨rfl, h2, h3, h6⟩
/-- append(full bytes, bytes): a new block. -/
theorem run_appFull {w : World} {M M2 : List Nat} {b off n c : Nat} {l : List UInt8} (hs : Bs M w (.slice (some ⟨b, off, none⟩) n c) l) {y : Value} {l2 : List UInt8} (hy : Bs M2 w y l2)
    (hfull : c < n + l2.length) (hb : n + l2.length ≤ 140737488355328) (ty : TypeId) :
    ∃ v' w', (Builtin.append_ #[26, 26] ty #[.slice (some ⟨b, off, none⟩) n c, y]).run Tryd.prog w = .ok v' w' ∧ OwB w.heap.size w' v' (l ++ l2) ∧ Upd [] w w' := by
  obtain ⟨i, hi, hz0, hz1, hz2⟩ := info_parts infoU8
  obtain ⟨hn, hnc, hc, hcell⟩ := bs_at hs
  have hne : l2 ≠ [] := by
    rintro rfl
    simp at hfull
    omega
  obtain ⟨b2, o2, c2, rfl, h21, h22, _, _⟩ := hy.some hne
  obtain ⟨_, _, _, hcell2⟩ := bs_at hy
  obtain ⟨v', w', h1, h2, h3⟩ := run_append_arg_grows (P := Tryd.prog) w 26 ty 5 i (.int .u8 0) 1 1 undBs hi hz0 hz1 hz2 rfl (by decide) ⟨b, off, none⟩ n c (l.map u8v) (by simp [hn]) (fun j u hj => by
      rw [Addr.add_lit]
      simp only [List.getElem?_map, Option.map_eq_some_iff] at hj
      obtain ⟨x, hx, rfl⟩ := hj
      exact hcell j x hx) ⟨b2, o2, none⟩ l2.length c2 (l2.map u8v) (by simp) (fun j u hj => by
      rw [Addr.add_lit]
      simp only [List.getElem?_map, Option.map_eq_some_iff] at hj
      obtain ⟨x, hx, rfl⟩ := hj
      exact hcell2 j x hx) hfull (by rw [maxLen_is]; omega) (by simpa using hb)
  refine ⟨v', w', h1, ?_, Upd.ofGrown h3⟩
  rw [← List.map_append] at h2
  have : n + l2.length = ((l ++ l2).map u8v).length := by simp [hn]
  rw [this] at h2
  exact h2
theorem step_appFull {w : World} {ops : Array Oper} {o : Oper} {a : Act} {K : Act → World → Prop} {Q : Exit → Act → World → Prop} {E : Prop} (hgd : o.guard = none) (s x : Operand)
    (ho : o.op = .call { callee := .builtin .append, args := #[s, x], argTypes := #[26, 26] })
    {M M2 : List Nat} {b off n c : Nat} {l l2 : List UInt8} (hs : a.eval s = .slice (some ⟨b, off, none⟩) n c) (hown : Bs M w (.slice (some ⟨b, off, none⟩) n c) l) {y : Value} (hx : a.eval x = y) (hy : Bs M2 w y l2)
    (hfull : c < n + l2.length) (hb : n + l2.length ≤ 140737488355328)
    (h : ∀ A cap w', OwB w.heap.size w' (.slice A (n + l2.length) cap) (l ++ l2) → Upd [] w w' → K (a.put o.dst (.slice A (n + l2.length) cap)) w') :
    if Region.wanted o (yielded ops a.tmps) = true then Oper.wp Tryd.prog o a w K Q else E := by
  have hw : Region.wanted o (yielded ops a.tmps) = true := by simp [Region.wanted, hgd]
  rw [if_pos hw]
  obtain ⟨v', w', hrun, h1, h2⟩ := run_appFull hown hy hfull hb o.type
  have hn := (bs_at hown).1
  obtain ⟨A, cap, rfl⟩ := h1.isSlice
  rw [List.length_append, ← hn] at h1 hrun
  unfold Oper.wp
  simp [execOp, ho, resolve, invoke, builtin, hs, hx, hrun, Result.andThen]
  exact h A cap w' h1 h2
/-- append(own bytes, string) in a region that draws. -/
theorem step_appS {w : World} {ops : Array Oper} {o : Oper} {a : Act} {K : Act → World → Prop} {Q : Exit → Act → World → Prop} {E : Prop} (hgd : o.guard = none) (s x : Operand)
    (ho : o.op = .call { callee := .builtin .append, args := #[s, x], argTypes := #[26, 9] })
    (B : Nat) (v : Value) (l : List UInt8) (hs : a.eval s = v) (hown : OwB B w v l) (y : ByteArray) (hx : a.eval x = .string y)
    (hbytes : l.length + y.size ≤ 140737488355328) (hB : B ≤ w.heap.size)
    (h : ∀ A cap w', OwB B w' (.slice A (l.length + y.size) cap) (l ++ y.data.toList) → Upd v.ownBlock.toList w w' → K (a.put o.dst (.slice A (l.length + y.size) cap)) w') :
    if Region.wanted o (yielded ops a.tmps) = true then Oper.wp Tryd.prog o a w K Q else E := by
  have hw : Region.wanted o (yielded ops a.tmps) = true := by simp [Region.wanted, hgd]
  rw [if_pos hw]
  have hz : (l ++ y.data.toList).length = l.length + y.size := by rw [List.length_append]; rfl
  obtain ⟨i, hi, hz0, hz1, hz2⟩ := info_parts infoU8
  obtain ⟨v', w', hrun, h1, h2, _⟩ := Lib.run_append_own_string (P := Tryd.prog) w B _ _ o.type _ i undBs undStr hi hz0 hz1 hz2 v (l.map u8v).length (l.map u8v) hown y (by rw [maxLen_is]; simp; omega) (by simpa using hbytes) hB
  have h3 : OwB B w' v' (l ++ y.data.toList) := by
    have e : (l.map u8v).length + y.size = ((l ++ y.data.toList).map u8v).length := by rw [List.length_map, List.length_map, List.length_append]; rfl
    rw [e] at h1
    rw [OwB, Ow, List.map_append] at *
    exact h1
  obtain ⟨A, cap, rfl⟩ := h3.isSlice
  rw [hz] at h3 hrun
  unfold Oper.wp execOp
  simp only [ho, resolve, invoke, builtin, Sem.run_bind, Sem.run_pure, Result.andThen_ok, List.map_toArray, List.map_cons, List.map_nil, hs, hx, hrun]
  exact h A cap w' h3 (Upd.ofGrown h2)
end Go.Proofs.YtpcndlipdfcnfaaDoor
