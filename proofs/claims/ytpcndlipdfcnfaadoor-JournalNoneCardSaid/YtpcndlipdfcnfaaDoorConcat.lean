/- slices.Grow of nothing, slices.Concat of bytes. -/
import Derived.Test.YtpcndlipdfcnfaaDoorApp
namespace Go.Proofs.YtpcndlipdfcnfaaDoor
open Go Go.RowKit

theorem ow_take {e : TypeId} {B : Nat} {w : World} {A : Option Addr} {n c : Nat} {xs : List Value} (h : Ow e B w (.slice A n c) xs) (k : Nat) (hk : k ≤ xs.length) : Ow e B w (.slice A k c) (xs.take k) := by
  obtain ⟨h1, h2⟩ := h
  have hl : (xs.take k).length = k := by simp [hk]
  refine ⟨by simp, ?_⟩
  rcases h2 with ⟨h2, h3⟩ | ⟨g, cap, cur, h2, h3, h4, h5, h6, h7, h8⟩
  · simp only [Value.slice.injEq] at h2
    obtain ⟨rfl, rfl, rfl⟩ := h2
    have : k = 0 := by omega
    subst this
    exact .inl ⟨rfl, hl⟩
  · simp only [Value.slice.injEq] at h2
    obtain ⟨rfl, rfl, rfl⟩ := h2
    refine .inr ⟨g, c, cur, by rw [hl], h3, h4, by omega, h6, h7, ?_⟩
    rw [hl, ← h8, List.take_take]
    congr 1
    simp
    omega

set_option maxRecDepth 100000 in
set_option maxHeartbeats 400000 in
theorem grow_nil (w : World) (n : Nat) (h1 : 1 ≤ n) (h2 : n ≤ 140737488355328) :
    Calls Tryd.prog 79 #[.slice none 0 0, .int .i64 n] w fun e w' => ∃ A c, e = .returned (.slice A 0 c) ∧ OwB w.heap.size w' (.slice A 0 c) [] ∧ Upd [] w w' := by
  have hn : (0 : Int) < (n : Int) := by omega
  have hn2 : (n : Int) ≤ 140737488355328 := by omega
  go_enter Tryd.func79, Tryd.ntmps79
  go_wp2_with (at_builtin; refine wpList_appZ rfl _ _ rfl w.heap.size _ [] rfl (Ow.nil _ _ _) _ n rfl (by omega) (by simp; omega) (Nat.le_refl _) ?_)
  intro v1 w1 hO hU
  obtain ⟨A, c, rfl⟩ := hO.isSlice
  rw [List.length_replicate] at hO ⊢
  have hc : n ≤ c := by
    rcases hO.shape with ⟨h, _⟩ | ⟨g, cap, h, _, _, h5, _⟩
    · simp only [Value.slice.injEq] at h; omega
    · simp only [Value.slice.injEq] at h; obtain ⟨_, _, rfl⟩ := h; simpa using h5
  obtain ⟨g, rfl⟩ : ∃ g, A = some ⟨g, 0, none⟩ := by
    rcases hO.shape with ⟨h, _⟩ | ⟨g, cap, h, _, _, h5, _⟩
    · simp only [Value.slice.injEq] at h; omega
    · simp only [Value.slice.injEq] at h; exact ⟨g, h.1⟩
  have HO := Sd.mk hO
  have HU := Sd.mk (hU.mono (U := []) (by simp [Value.ownBlock]))
  clear hO hU
  go_wp2
  go_ret
  exact ⟨some ⟨g, 0, none⟩, c, rfl, by simpa [OwB] using ow_take HO.out 0 (by omega), HU.out⟩

theorem flat_take {ls : List (List UInt8)} {i : Nat} (h : i < ls.length) : (ls.take (i + 1)).flatten = (ls.take i).flatten ++ ls[i] := by
  rw [List.take_succ_eq_append_getElem h, List.flatten_append]
  simp
theorem flat_le {ls : List (List UInt8)} (i : Nat) : (ls.take i).flatten.length ≤ ls.flatten.length := by
  have : ls.flatten = (ls.take i).flatten ++ (ls.drop i).flatten := by rw [← List.flatten_append, List.take_append_drop]
  rw [this, List.length_append]
  omega

set_option maxRecDepth 100000 in
set_option maxHeartbeats 1000000 in
theorem concat_any {M : List Nat} {w : World} {b off cp : Nat} {vs : List Value} {ls : List (List UInt8)} (hv : Rd M w (.slice (some ⟨b, off, none⟩) vs.length cp) vs) (hl : vs.length = ls.length)
    (hb : ∀ i (hi : i < vs.length) (hi' : i < ls.length), Bs M w vs[i] ls[i]) (h1 : 1 ≤ ls.flatten.length) (h2 : ls.flatten.length ≤ 1073741824) :
    Calls Tryd.prog 67 #[.slice (some ⟨b, off, none⟩) vs.length cp] w fun e w' => ∃ A c, e = .returned (.slice A ls.flatten.length c) ∧ OwB w.heap.size w' (.slice A ls.flatten.length c) ls.flatten ∧ Upd [] w w' := by
  have hcell : ∀ i (hi : i < ls.length), ∃ A c, w.cell? ⟨b, off + i, none⟩ = some (.slice A ls[i].length c) ∧ Bs M w (.slice A ls[i].length c) ls[i] := by
    intro i hi
    have hi2 : i < vs.length := by omega
    have hB := hb i hi2 hi
    obtain ⟨A, c, e⟩ := hB.isSlice
    rw [e] at hB
    refine ⟨A, c, ?_, hB⟩
    rcases hv with ⟨h, _⟩ | ⟨b', off', c', h, _, _, _, _, h5⟩
    · cases h
    · simp only [Value.slice.injEq, Option.some.injEq, Addr.mk.injEq] at h
      obtain ⟨⟨rfl, rfl, _⟩, _, _⟩ := h
      rw [← e]
      exact h5 i _ (by simp [hi2])
  have hcp : ls.length ≤ cp ∧ cp ≤ 9223372036854775807 := by
    rcases hv with ⟨h, _⟩ | ⟨b', off', c', h, h1, h2, _⟩
    · cases h
    · simp only [Value.slice.injEq] at h
      obtain ⟨_, _, rfl⟩ := h
      exact ⟨by omega, h2⟩
  obtain ⟨hcp1, hcp2⟩ := hcp
  rw [hl]
  have HC := Sd.mk hcell
  have hfl : ∀ i, (ls.take i).flatten.length ≤ ls.flatten.length := flat_le
  have HFL := Sd.mk hfl
  clear hv hb hcell hl hfl
  go_enter Tryd.func67, Tryd.ntmps67
  go_wp2
  go_loopg [3, 11] ls.length (fun g t k wr => ∃ (i q : Nat), i ≤ ls.length ∧ t = .int .i64 q ∧ k = .int .i64 i ∧ w = wr ∧ Sd (g = ls.length - i) ∧ Sd (q = (ls.take i).flatten.length))
  case atStart => exact ⟨0, 0, by omega, rfl, rfl, rfl, ⟨rfl⟩, ⟨rfl⟩⟩
  case round =>
    obtain ⟨i, q, hi, rfl, rfl, hww, hg, hq⟩ := hrel
    subst hww
    by_cases hlt : i < ls.length
    · obtain ⟨A, c, hc, hB⟩ := HC.out i hlt
      have hq1 : q ≤ 1073741824 := by have := HFL.out i; rw [hq.out]; omega
      have hs : (ls.take (i + 1)).flatten.length = q + ls[i].length := by rw [flat_take hlt, List.length_append, hq.out]
      have hs1 : q + ls[i].length ≤ 1073741824 := by rw [← hs]; have := HFL.out (i + 1); omega
      have hi1 : (i : Int) < ls.length := by omega
      obtain ⟨k, hk⟩ : ∃ k, k = ls[i].length := ⟨_, rfl⟩
      rw [← hk] at hc hs1 hs
      have HS := Sd.mk hs
      clear hB hk hs
      go_wp2
      have hg1 := hg.out
      go_roundg (ls.length - (i + 1))
      case measure => omega
      case rel => exact ⟨i + 1, q + k, by omega, by go_num, by go_num, rfl, ⟨rfl⟩, ⟨by rw [HS.out]⟩⟩
    · obtain rfl : i = ls.length := by omega
      have hq2 := hq.out
      rw [List.take_length] at hq2
      have HG := Sd.mk (grow_nil w q (by omega) (by omega))
      have HQ := Sd.mk hq2
      clear hq2
      go_wp2_with fail
      refine HG.out.mono ?_
      rintro e w1 ⟨A1, c1, rfl, hO, hU⟩
      have H1 := Sd.mk hU
      have HO1 := Sd.mk hO
      clear hU hO
      go_wp2
      have hz1 := H1.out.size
      clear HG HQ hg hq
      go_loopg [6, 27] ls.length (fun g v k w2 => ∃ (i q : Nat) (A : Option Addr) (c : Nat), i ≤ ls.length ∧ v = .slice A q c ∧ k = .int .i64 i ∧ Sd (g = ls.length - i) ∧ Sd (q = (ls.take i).flatten.length) ∧ Sd (OwB w.heap.size w2 (.slice A q c) (ls.take i).flatten) ∧ Sd (Upd [] w w2))
      case atStart => exact ⟨0, 0, A1, c1, by omega, rfl, rfl, ⟨rfl⟩, ⟨rfl⟩, HO1, H1⟩
      case round =>
        obtain ⟨i, q, A, c, hi, rfl, rfl, hg, hq, hO, hu⟩ := hrel
        by_cases hlt : i < ls.length
        · obtain ⟨A2, c2, hc, hB⟩ := HC.out i hlt
          have hcw := hu.out.cell hc (by simp)
          have HB := Sd.mk (hB.keep hu.out)
          have hs : (ls.take (i + 1)).flatten = (ls.take i).flatten ++ ls[i] := flat_take hlt
          have hle := HFL.out (i + 1)
          rw [hs, List.length_append] at hle
          have hi1 : (i : Int) < ls.length := by omega
          obtain ⟨l0, hl0⟩ : ∃ l0, l0 = (ls.take i).flatten := ⟨_, rfl⟩
          obtain ⟨l1, hl1⟩ : ∃ l1, l1 = ls[i] := ⟨_, rfl⟩
          rw [← hl0] at hle hs hO hq
          rw [← hl1] at hle hs HB hcw
          have HS := Sd.mk hs
          have hz := hu.out.size
          have hle2 : l0.length + l1.length ≤ 140737488355328 := by omega
          clear hc hB hl0 hl1 hs hle
          go_wp2_with (at_builtin; refine wpList_appB rfl _ _ rfl w.heap.size _ l0 rfl hO.out M _ l1 rfl HB.out hle2 hz ?_)
          intro v3 w3 hO3 hU3 hN3
          obtain ⟨A3, c3, rfl⟩ := hO3.isSlice
          have HO3 := Sd.mk hO3
          have HU3 : Sd (Upd [] w w3) := ⟨hu.out.trans' hU3 (by simp) (fun x hx => .inr (Ow.block hO.out x hx))⟩
          clear hO3 hU3 hN3
          go_wp2
          have hg1 := hg.out
          go_roundg (ls.length - (i + 1))
          case measure => omega
          case rel => exact ⟨i + 1, (l0 ++ l1).length, A3, c3, by omega, rfl, by go_num, ⟨rfl⟩, ⟨by rw [HS.out]⟩, ⟨by rw [HS.out]; exact HO3.out⟩, HU3⟩
        · obtain rfl : i = ls.length := by omega
          go_wp2
          go_ret
          have e := hq.out
          rw [List.take_length] at e
          have h3 := hO.out
          rw [List.take_length, e] at h3
          exact ⟨A, c, by rw [← e]; rfl, h3, hu.out⟩
end Go.Proofs.YtpcndlipdfcnfaaDoor
