/- The law's own functions: live, start. -/
import Derived.Test.YtpcndlipdfcnfaaDoorAppend
import Derived.Lib.SlBytesConst
namespace Go.Proofs.YtpcndlipdfcnfaaDoor
open Go Go.RowKit

theorem newS_blank (n : Nat) : (newS n).Blank := by
  refine ⟨rfl, fun i hi => ?_⟩
  have hi' : i < n := by simpa [DiskS.n, newS] using hi
  simp [DiskS.get, newS, List.getD_eq_getElem?_getD, hi']
theorem newS_n (n : Nat) : (newS n).n = n := by simp [newS, DiskS.n]

set_option maxRecDepth 100000 in
set_option maxHeartbeats 400000 in
theorem takes_n (w : World) (n : Int) (h : n = 108 ∨ n = 109) : Calls Tryd.prog 30 #[.int .i64 n] w fun e w' => e = .returned (.int .i64 (n - 107)) ∧ w = w' := by
  rcases h with rfl | rfl
  all_goals
    go_enter Tryd.func30, Tryd.ntmps30
    go_wp2
    go_ret
    exact ⟨rfl, rfl⟩
set_option maxRecDepth 100000 in
set_option maxHeartbeats 2000000 in
theorem live_is (w : World) : Calls Tryd.prog 8 #[] w fun e w' => e = .returned (.bool true) ∧ Upd [] w w' := by
  have HN := Sd.mk (new_is [] w 20 (by decide) (by decide) (by simp))
  go_enter Tryd.func8, Tryd.ntmps8
  go_wp2_with fail
  refine HN.out.mono ?_
  rintro e w1 ⟨d, a, m, rfl, hD, hd, ha, hm, hU⟩
  have HD := Sd.mk hD
  have H1 := Sd.mk hU
  have ho := open_blank hD (newS_blank 20) rfl 9 (.inl ⟨rfl, newS_n 20⟩)
  rw [show (2 + ((9 : Nat) : Int)) = 11 from rfl, show ((9 : Nat) : Int) = 9 from rfl, show (newS 20).life = 0 from rfl, newS_n 20] at ho
  have HO := Sd.mk ho
  clear hD hU ho HN
  go_wp2_with fail
  refine HO.out.mono ?_
  rintro e w2 ⟨lg, c, rfl, ⟨D, hD2, e1, e2, e3, e4⟩, hL2, hlg, hU2⟩
  have H2 : Sd (Upd [] w w2) := ⟨H1.out.trans' hU2 (by simp) (fun x hx => by
    simp only [List.mem_cons, List.not_mem_nil, or_false] at hx
    rcases hx with rfl | rfl | rfl <;> exact .inr (by assumption))⟩
  have HL2 := Sd.mk hL2
  have HD2 := Sd.mk hD2
  have HE := Sd.mk (show D.n = 20 ∧ D.down = false ∧ D.trip = 0 ∧ D.life = 0 from ⟨e1, e2, e3, e4⟩)
  have hne := HD.out.lt
  have hlt2 := HD2.out.mlt
  have HMl := Sd.mk hlt2
  clear hL2 hD2 hU2 e1 e2 e3 e4 hlt2
  go_wp2_with fail
  refine (settled_is HL2.out).mono ?_
  rintro e w' ⟨rfl, rfl⟩
  go_wp2_with fail
  refine (left_is HL2.out (by decide) (by decide) (by decide) (by decide)).mono ?_
  rintro e w3 ⟨rfl, hU3⟩
  have H3 := Sd.mk hU3
  have HL3 : Sd (LogAt w3 lg d c 0 2 9 11 9 0 1 0 (.slice none 0 0) true) := ⟨HL2.out.upd hU3 (by simp)⟩
  clear hU3
  have hcv := Lib.run_convert_bytes_const (P := Tryd.prog) w3 26 5 #[.int .u8 97] 1 1 undBs undU8
  have HBx : Sd (Bs [lg, d, a, m] (w3.alloc (.cells #[.int .u8 97] 5 (1, 2))) (.slice (some ⟨w3.heap.size, 0, none⟩) 1 1) [97]) := ⟨bs_out (rd_block (xs := [.int .u8 97]) (heap_alloc_new w3 _) (by rw [maxLen_is]; show 1 ≤ _; decide)) (fun hx => by have := HMl.out _ hx; have := H3.out.size; omega)⟩
  have HAp := Sd.mk (append_one (HD2.out.keep (H3.out.alloc (.cells #[.int .u8 97] 5 (1, 2)))) HE.out.2.1 HE.out.2.2.1 9 (by decide) (by decide) (by rw [HE.out.1]; decide) (c := c) (by rw [HE.out.2.2.2]; exact HL3.out.upd ((Upd.refl [] _).alloc _) (by simp)) (lg := lg) (by omega) (by omega) (by simp) HBx.out)
  go_wp2_with fail
  refine HAp.out.mono ?_
  rintro e w4 ⟨rfl, v4, r4, hL4, hO4, hB4, hU4⟩
  rw [HE.out.2.2.2] at hL4
  obtain ⟨gg, cc, rfl⟩ : ∃ g c, r4 = .slice (some ⟨g, 0, none⟩) 1 c := by
    rcases hO4.shape with ⟨_, h0⟩ | ⟨g, c, h0, _⟩
    · simp at h0
    · exact ⟨g, c, h0⟩
  have hsz : w.heap.size ≤ w1.heap.size := H1.out.size
  have HU4 : Sd (Upd [] w w4) := ⟨((H2.out.trans H3.out).alloc _).trans' hU4 (by simp) (fun x hx => by
    simp only [List.mem_cons, List.not_mem_nil, or_false] at hx
    rcases hx with rfl | rfl | rfl
    · exact .inr hd
    · exact .inr hm
    · exact .inr (by omega))⟩
  have HL4 := Sd.mk hL4
  have HR := Sd.mk (records_one hL4 hO4 hB4)
  clear hL4 hO4 hB4 hU4 hcv HBx HAp
  go_wp2_with fail
  refine HR.out.mono ?_
  rintro e w5 ⟨g5, c5, v5, rfl, hc5, hq5, hB5, hU5⟩
  have HL5 : Sd (LogAt w5 lg d c 0 2 9 11 9 0 1 1 (.slice (some ⟨gg, 0, none⟩) 1 cc) true) := ⟨HL4.out.upd hU5 (by simp)⟩
  have HU5 := Sd.mk (HU4.out.trans hU5)
  obtain ⟨A5, k5, rfl⟩ := hB5.isSlice
  have hstr : (convert 26 9 (.slice A5 1 k5)).run Tryd.prog w5 = .ok (.string ⟨#[97]⟩) w5 := hB5.toStr
  clear hB5 hU5
  go_wp2_with fail
  refine (left_is HL5.out (by decide) (by decide) (by decide) (by decide)).mono ?_
  rintro e w6 ⟨rfl, hU6⟩
  have HU6 := Sd.mk (HU5.out.trans hU6)
  clear hU6 hstr
  go_wp2_with fail
  refine (takes_n _ 108 (.inl rfl)).mono ?_
  rintro e w' ⟨rfl, rfl⟩
  go_wp2_with fail
  refine (takes_n _ 109 (.inr rfl)).mono ?_
  rintro e w' ⟨rfl, rfl⟩
  go_wp2
  go_ret
  exact ⟨rfl, HU6.out⟩
end Go.Proofs.YtpcndlipdfcnfaaDoor
