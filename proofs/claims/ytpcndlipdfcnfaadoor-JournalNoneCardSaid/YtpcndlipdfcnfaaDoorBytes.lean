/- What the library's small functions on bytes compute. -/
import Derived.Test.YtpcndlipdfcnfaaDoorOctet
namespace Go.Proofs.YtpcndlipdfcnfaaDoor
open Go Go.RowKit

theorem at_is (l : List UInt8) (i : Nat) (h : i < l.length) : l[i]? = some l[i] := by simp
theorem undU8 : Tryd.prog.underlying 5 = some (.int .u8) := by kernel_rfl
theorem undStr : Tryd.prog.underlying 9 = some .string := by kernel_rfl
theorem Bs.eqlNil {w : World} (v : Value) {M : List Nat} {l : List UInt8} (hv : Bs M w v l) : ∃ a n c, v = .slice a n c ∧ ∀ w', (binOp .eql 26 v (.slice none 0 0)).run Tryd.prog w' = .ok (.bool a.isNone) w' := by
  rcases hv.cases with ⟨rfl, rfl⟩ | ⟨b, off, c, rfl, hlc, hc, hM, hb, hcell⟩
  · exact ⟨_, _, _, rfl, fun w' => eql_nil w' _ _ _ _ _ undBs⟩
  · exact ⟨_, _, _, rfl, fun w' => eql_nil w' _ _ _ _ _ undBs⟩
theorem Bs.toStr {M : List Nat} {w : World} {v : Value} {l : List UInt8} (hv : Bs M w v l) : (convert 26 9 v).run Tryd.prog w = .ok (.string ⟨l.toArray⟩) w :=
  convert_str hv _ _ _ undBs undU8 undStr

/-- append(own bytes, bytes). -/
theorem wpList_appB {w : World} {ops : Array Oper} {rest : List Oper} {o : Oper} {a : Act} {Q : Exit → Act → World → Prop} (hgd : o.guard = none) (s x : Operand)
    (ho : o.op = .call { callee := .builtin .append, args := #[s, x], argTypes := #[26, 26] })
    (B : Nat) (v : Value) (l : List UInt8) (hs : a.eval s = v) (hown : OwB B w v l) (M : List Nat) (y : Value) (l2 : List UInt8) (hx : a.eval x = y) (hy : Bs M w y l2)
    (hbytes : l.length + l2.length ≤ 140737488355328) (hB : B ≤ w.heap.size)
    (h : ∀ v' w', OwB B w' v' (l ++ l2) → Upd v.ownBlock.toList w w' → (v' = .slice none 0 0 ↔ v = .slice none 0 0 ∧ l2 = []) → wpList Tryd.prog ops Q rest (a.put o.dst v') w') : wpList Tryd.prog ops Q (o :: rest) a w := by
  refine wpList_app hgd s x _ ho _ (.int .u8 0) 1 undBs infoU8 rfl B v (l.map u8v) hs hown M y (l2.map u8v) hx hy (u8v_one l2) (by decide) (by simpa using hbytes) hB ?_
  intro v' w' h1 h2 h3
  rw [← List.map_append] at h1
  exact h v' w' h1 h2 (by rw [h3]; simp)
/-- append(own bytes, string). -/
theorem wpList_appS {w : World} {ops : Array Oper} {rest : List Oper} {o : Oper} {a : Act} {Q : Exit → Act → World → Prop} (hgd : o.guard = none) (s x : Operand)
    (ho : o.op = .call { callee := .builtin .append, args := #[s, x], argTypes := #[26, 9] })
    (B : Nat) (v : Value) (l : List UInt8) (hs : a.eval s = v) (hown : OwB B w v l) (y : ByteArray) (hx : a.eval x = .string y)
    (hbytes : l.length + y.size ≤ 140737488355328) (hB : B ≤ w.heap.size)
    (h : ∀ v' w', OwB B w' v' (l ++ y.data.toList) → Upd v.ownBlock.toList w w' → wpList Tryd.prog ops Q rest (a.put o.dst v') w') : wpList Tryd.prog ops Q (o :: rest) a w := by
  refine wpList_app_str hgd s x _ _ ho _ undBs undStr infoU8 B v (l.map u8v) hs hown y hx (by simpa using hbytes) hB ?_
  intro v' w' h1 h2
  rw [← List.map_append] at h1
  exact h v' w' h1 h2
theorem undInt : Tryd.prog.underlying 3 = some (.int .i64) := by kernel_rfl
/-- append(own bytes, make([]byte, m)...). -/
theorem wpList_appZ {w : World} {ops : Array Oper} {rest : List Oper} {o : Oper} {a : Act} {Q : Exit → Act → World → Prop} (hgd : o.guard = none) (s x : Operand)
    (ho : o.op = .call { callee := .builtin .append, args := #[s, x], argTypes := #[26, 3] })
    (B : Nat) (v : Value) (l : List UInt8) (hs : a.eval s = v) (hown : OwB B w v l) (M : Int) (m : Nat) (hx : a.eval x = .int .i64 M) (hM : M = m)
    (hbytes : l.length + m ≤ 140737488355328) (hB : B ≤ w.heap.size)
    (h : ∀ v' w', OwB B w' v' (l ++ List.replicate m 0) → Upd v.ownBlock.toList w w' → wpList Tryd.prog ops Q rest (a.put o.dst v') w') : wpList Tryd.prog ops Q (o :: rest) a w := by
  refine wpList_app_zeros hgd s x _ _ ho _ (.int .u8 0) 1 undBs .i64 undInt infoU8 rfl rfl B v (l.map u8v) hs hown .i64 M m hx hM (by decide) (by simpa using hbytes) hB ?_
  intro v' w' h1 h2
  have e : l.map u8v ++ List.replicate m (Value.int .u8 0) = (l ++ List.replicate m 0).map u8v := by
    simp [u8v]
  rw [e] at h1
  exact h v' w' h1 h2

/-- append(own bytes, bytes) in a region that draws. -/
theorem step_appB {w : World} {ops : Array Oper} {o : Oper} {a : Act} {K : Act → World → Prop} {Q : Exit → Act → World → Prop} {E : Prop} (hgd : o.guard = none) (s x : Operand)
    (ho : o.op = .call { callee := .builtin .append, args := #[s, x], argTypes := #[26, 26] })
    (B : Nat) (v : Value) (l : List UInt8) (hs : a.eval s = v) (hown : OwB B w v l) (M : List Nat) (y : Value) (l2 : List UInt8) (hx : a.eval x = y) (hy : Bs M w y l2)
    (hbytes : l.length + l2.length ≤ 140737488355328) (hB : B ≤ w.heap.size)
    (h : ∀ A cap w', OwB B w' (.slice A (l.length + l2.length) cap) (l ++ l2) → Upd v.ownBlock.toList w w' → K (a.put o.dst (.slice A (l.length + l2.length) cap)) w') :
    if Region.wanted o (yielded ops a.tmps) = true then Oper.wp Tryd.prog o a w K Q else E := by
  refine step_appA hgd s x _ ho _ (.int .u8 0) 1 undBs infoU8 rfl B v (l.map u8v) hs hown M y (l2.map u8v) hx hy (u8v_one l2) (by decide) (by simpa using hbytes) hB ?_
  intro A cap w' h1 h2
  rw [← List.map_append, List.length_map, List.length_map] at h1
  rw [List.length_map, List.length_map]
  exact h A cap w' h1 h2

/-! ### slices.Clone of bytes -/
set_option maxRecDepth 100000 in
set_option maxHeartbeats 400000 in
theorem clone_any {M : List Nat} {w : World} {v : Value} {l : List UInt8} (hv : Bs M w v l) (hl : l.length ≤ 140737488355328) :
    Calls Tryd.prog 29 #[v] w fun e w' => ∃ v', e = .returned v' ∧ OwB w.heap.size w' v' l ∧ Upd [] w w' ∧ (v' = .slice none 0 0 ↔ v = .slice none 0 0) := by
  rcases hv.cases with ⟨rfl, rfl⟩ | ⟨b, off, c, rfl, hlc, hc, hM, hb, hcell⟩
  · clear hv
    have hr := fun w' : World => eql_nil w' 26 _ none 0 0 undBs
    go_enter Tryd.func29, Tryd.ntmps29
    go_wp2
    go_ret
    exact ⟨_, rfl, Ow.nil _ _ _, Upd.refl _ _, by simp⟩
  · have hr := fun w' : World => eql_nil w' 26 _ (some ⟨b, off, none⟩) l.length c undBs
    have HV := Sd.mk hv
    clear hv hcell hM
    go_enter Tryd.func29, Tryd.ntmps29
    go_wp2_with (at_builtin; refine wpList_appB rfl _ _ rfl w.heap.size (.slice (some ⟨w.heap.size, 0, none⟩) 0 0) [] rfl ?own M _ l rfl (HV.out.keep ((Upd.refl _ _).alloc _)) (by simpa using hl) (by simp) ?_)
    case own => exact ⟨rfl, .inr ⟨w.heap.size, 0, _, rfl, Nat.le_refl _, heap_alloc_new _ _, by simp, by simp, by simp, by simp⟩⟩
    intro v' w' h1 h2 h3
    have H1 := Sd.mk h1
    have H2 := Sd.mk h2
    have H3 := Sd.mk h3
    clear h1 h2 h3
    go_wp2
    go_ret
    refine ⟨v', rfl, by simpa using H1.out, ((Upd.refl [] w).alloc _).trans' (U := []) H2.out (by simp) (by simp [Value.ownBlock]), ?_⟩
    simpa using H3.out

/-! ### bytes.Equal, slices.Equal -/
set_option maxRecDepth 100000 in
set_option maxHeartbeats 400000 in
theorem bytesEqual_any {M M' : List Nat} {w : World} {v v' : Value} {l l' : List UInt8} (hv : Bs M w v l) (hv' : Bs M' w v' l') :
    Calls Tryd.prog 73 #[v, v'] w fun e w' => e = .returned (.bool (decide (l = l'))) ∧ w = w' := by
  have h1 := hv.toStr
  have h2 := hv'.toStr
  clear hv hv'
  go_enter Tryd.func73, Tryd.ntmps73
  go_wp2
  go_ret
  exact ⟨by rw [show (l == l') = decide (l = l') from by rw [Bool.eq_iff_iff]; simp]; rfl, rfl⟩

theorem take_succ_eq {l l' : List UInt8} {i : Nat} (h1 : i < l.length) (h2 : i < l'.length) (h : l.take i = l'.take i) (he : l[i] = l'[i]) : l.take (i + 1) = l'.take (i + 1) := by
  rw [List.take_succ_eq_append_getElem h1, List.take_succ_eq_append_getElem h2, h, he]

set_option maxRecDepth 100000 in
set_option maxHeartbeats 1000000 in
theorem slicesEqual_some {M M' : List Nat} {w : World} {l l' : List UInt8} (b off c b' off' c' : Nat) (hv : Bs M w (.slice (some ⟨b, off, none⟩) l.length c) l) (hv' : Bs M' w (.slice (some ⟨b', off', none⟩) l'.length c') l') (hll : l.length = l'.length) :
    Calls Tryd.prog 75 #[.slice (some ⟨b, off, none⟩) l.length c, .slice (some ⟨b', off', none⟩) l'.length c'] w fun e w' => e = .returned (.bool (decide (l = l'))) ∧ Upd [] w w' := by
  obtain ⟨hc, HC⟩ : l.length ≤ 9223372036854775807 ∧ Sd (∀ j x, l[j]? = some x → w.cell? ⟨b, off + j, none⟩ = some (.int .u8 (x.toNat : Int))) := by
    refine ⟨hv.len, ?_⟩
    rcases hv.cases with ⟨h, _⟩ | ⟨_, _, _, h, _, _, _, _, hcell⟩
    · simp at h
    · simp only [Value.slice.injEq, Option.some.injEq, Addr.mk.injEq] at h
      obtain ⟨⟨rfl, rfl, _⟩, _, rfl⟩ := h
      exact ⟨hcell⟩
  obtain ⟨hc', HC'⟩ : l'.length ≤ 9223372036854775807 ∧ Sd (∀ j x, l'[j]? = some x → w.cell? ⟨b', off' + j, none⟩ = some (.int .u8 (x.toNat : Int))) := by
    refine ⟨hv'.len, ?_⟩
    rcases hv'.cases with ⟨h, _⟩ | ⟨_, _, _, h, _, _, _, _, hcell⟩
    · simp at h
    · simp only [Value.slice.injEq, Option.some.injEq, Addr.mk.injEq] at h
      obtain ⟨⟨rfl, rfl, _⟩, _, rfl⟩ := h
      exact ⟨hcell⟩
  clear hv hv'
  have hbe : (((l.length : Nat) : Int) != ((l'.length : Nat) : Int)) = false := by simp [hll]
  have HL := Sd.mk hll
  have hll2 : l.length ≤ l'.length := by omega
  have hll3 : l'.length ≤ l.length := by omega
  clear hll
  go_enter Tryd.func75, Tryd.ntmps75
  go_wp2
  go_loopg [13] l.length (fun g k w' => ∃ (i n : Nat), i ≤ l.length ∧ k = .int .i64 i ∧ w' = w.drewN n ∧ Sd (g = l.length - i) ∧ Sd (l.take i = l'.take i))
  case atStart => exact ⟨0, 0, by omega, rfl, rfl, ⟨rfl⟩, ⟨rfl⟩⟩
  case round =>
    obtain ⟨i, n, hi, rfl, rfl, hg, he⟩ := hrel
    by_cases hlt : i < l.length
    · have hcell := HC.out _ _ (at_is l i hlt)
      have hcell' := HC'.out _ _ (at_is l' i (by omega))
      have hi' : i < l'.length := by omega
      by_cases hq : l[i] = l'[i]
      · have hqb : (((l[i].toNat : Nat) : Int) != ((l'[i].toNat : Nat) : Int)) = false := by simp [hq]
        have HQ := Sd.mk hq
        clear hq
        go_wp2
        go_quiet (fail)
        go_wp2
        go_roundg (l.length - (i + 1))
        case measure => rw [hg.out]; omega
        case rel => exact ⟨i + 1, _, by omega, by go_num, rfl, ⟨rfl⟩, ⟨take_succ_eq hlt hi' he.out HQ.out⟩⟩
      · have hqb : (((l[i].toNat : Nat) : Int) != ((l'[i].toNat : Nat) : Int)) = true := by
          rw [bne_iff_ne]; intro h; exact hq (UInt8.toNat_inj.1 (by omega))
        have HQ := Sd.mk hq
        clear hq
        go_wp2
        go_quiet (fail)
        go_wp2
        go_ret
        refine ⟨?_, ⟨rfl, rfl, rfl, Nat.le_refl _, fun _ _ _ => rfl⟩⟩
        rw [decide_eq_false (fun h => HQ.out (by subst h; rfl))]
        rfl
    · obtain rfl : i = l.length := by omega
      go_wp2
      go_ret
      refine ⟨?_, ⟨rfl, rfl, rfl, Nat.le_refl _, fun _ _ _ => rfl⟩⟩
      have h := he.out
      rw [List.take_length, HL.out, List.take_length] at h
      rw [decide_eq_true h]
      rfl
end Go.Proofs.YtpcndlipdfcnfaaDoor
