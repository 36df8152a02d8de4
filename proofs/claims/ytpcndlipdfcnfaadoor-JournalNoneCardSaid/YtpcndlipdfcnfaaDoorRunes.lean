/- bytes.ContainsFunc over zeros. -/
import Derived.Test.YtpcndlipdfcnfaaDoorBytes
namespace Go.Proofs.YtpcndlipdfcnfaaDoor
open Go Go.RowKit

set_option maxRecDepth 100000 in
set_option maxHeartbeats 400000 in
theorem decodeZero (w : World) (b o n c : Nat) (hn : 1 ≤ n) (h : w.cell? ⟨b, o, none⟩ = some (.int .u8 0)) :
    Calls Tryd.prog 94 #[.slice (some ⟨b, o, none⟩) n c] w fun e w' => e = .returned (.tuple #[.int .i32 0, .int .i64 1]) ∧ w = w' := by
  go_enter Tryd.func94, Tryd.ntmps94
  go_wp2
  go_loopg [8] 0 (fun g k wr => k = .int .i64 0 ∧ wr = w)
  case atStart => exact ⟨rfl, rfl⟩
  case round =>
    obtain ⟨rfl, rfl⟩ := hrel
    go_wp2
    go_ret2
    exact ⟨rfl, rfl⟩

set_option maxRecDepth 100000 in
set_option maxHeartbeats 400000 in
theorem blankFn (w : World) : Calls Tryd.prog 59 #[.int .i32 0] w fun e w' => e = .returned (.bool false) ∧ w = w' := by
  go_enter Tryd.func59, Tryd.ntmps59
  go_wp2
  go_ret
  exact ⟨rfl, rfl⟩
theorem blankGo (args : Array Value) (w : World) : (callFunc 59 args).run Tryd.prog w = .ok (.enter 59 args) w := by kernel_rfl

set_option maxRecDepth 100000 in
set_option maxHeartbeats 400000 in
theorem indexFunc_zeros {M : List Nat} {w : World} {v : Value} {n : Nat} (hv : Bs M w v (List.replicate n 0)) :
    Calls Tryd.prog 82 #[v, .func (.func 59) #[] #[], .bool true] w fun e w' => e = .returned (.int .i64 (-1)) ∧ w = w' := by
  have hg := blankGo
  have HV := Sd.mk hv
  obtain ⟨A, c, rfl, hA⟩ : ∃ A c, v = .slice A n c ∧ (0 < n → ∃ b off, A = some ⟨b, off, none⟩ ∧ n ≤ c ∧ c ≤ 9223372036854775807 ∧ ∀ j, j < n → w.cell? ⟨b, off + j, none⟩ = some (.int .u8 0)) := by
    rcases hv.cases with ⟨rfl, h0⟩ | ⟨b, off, c, rfl, h1, h2, _, _, h6⟩
    · have : n = 0 := by simpa using h0
      subst this
      exact ⟨none, 0, rfl, fun h => absurd h (by omega)⟩
    · rw [List.length_replicate] at h1
      exact ⟨some ⟨b, off, none⟩, c, by simp, fun _ => ⟨b, off, rfl, h1, h2, fun j hj => h6 j 0 (by simp [hj])⟩⟩
  have HA := Sd.mk hA
  have hn : n ≤ 9223372036854775807 := by have := hv.len; rw [maxLen_is, List.length_replicate] at this; exact this
  clear hA hv
  go_enter Tryd.func82, Tryd.ntmps82
  go_wp2
  go_loopg [7] n (fun g k wr => ∃ i : Nat, i ≤ n ∧ k = .int .i64 i ∧ wr = w ∧ Sd (g = n - i))
  case atStart => exact ⟨0, by omega, rfl, rfl, ⟨rfl⟩⟩
  case round =>
    obtain ⟨i, hi, rfl, rfl, hg'⟩ := hrel
    by_cases hlt : i < n
    · obtain ⟨b, off, rfl, hnc, hc, hz⟩ := HA.out (by omega)
      have hzi := hz i hlt
      have hD := Sd.mk (decodeZero wr b (off + i) (n - i) (c - i) (by omega) hzi)
      have hF := Sd.mk (blankFn wr)
      clear hz
      go_wp2_with (first | (go_at_call 94; refine hD.out.mono ?_; rintro e w' ⟨rfl, rfl⟩) | (refine hF.out.mono ?_; rintro e w' ⟨rfl, rfl⟩))
      go_roundg (n - (i + 1))
      case measure => rw [hg'.out]; omega
      case rel => exact ⟨i + 1, by omega, by go_num, rfl, ⟨rfl⟩⟩
    · obtain rfl : i = n := by omega
      go_wp2
      go_ret
      exact ⟨rfl, rfl⟩

set_option maxRecDepth 100000 in
set_option maxHeartbeats 400000 in
theorem containsFunc_zeros {M : List Nat} {w : World} {v : Value} {n : Nat} (hv : Bs M w v (List.replicate n 0)) :
    Calls Tryd.prog 58 #[v, .func (.func 59) #[] #[]] w fun e w' => e = .returned (.bool false) ∧ w = w' := by
  have h1 : Sd (Calls Tryd.prog 74 #[v, .func (.func 59) #[] #[]] w fun e w' => e = .returned (.int .i64 (-1)) ∧ w = w') := by
    have H := Sd.mk (indexFunc_zeros hv)
    clear hv
    refine ⟨?_⟩
    go_enter Tryd.func74, Tryd.ntmps74
    go_wp2_with (go_at_call 82; refine H.out.mono ?_; rintro e w' ⟨rfl, rfl⟩)
    go_ret
    exact ⟨rfl, rfl⟩
  clear hv
  go_enter Tryd.func58, Tryd.ntmps58
  go_wp2_with (go_at_call 74; refine h1.out.mono ?_; rintro e w' ⟨rfl, rfl⟩)
  go_ret
  exact ⟨rfl, rfl⟩
end Go.Proofs.YtpcndlipdfcnfaaDoor
