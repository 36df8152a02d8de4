/- Maps of the heap, as lists of keys and values: look-up, store, delete. No program in sight. -/
import Derived.Test.YtpcndlipdfcnfaaDoorBase
namespace Go.Proofs.YtpcndlipdfcnfaaDoor
open Go Go.RowKit

/-- Keys of a type that Go compares at once (an int, a string). -/
structure KeyOk (P : Program) (kt : TypeId) {κ : Type} [DecidableEq κ] (kf : κ → Value) : Prop where
  cmp : ∃ d, P.underlying kt = some d ∧ ∀ a b, Instr.sameNow d (kf a) (kf b) = some (decide (a = b))
  check : ∀ a e w, (Instr.checkKey e 10000 kt (kf a)).run P w = .ok () w
  bits : ∀ a, Instr.sameBits 10000 (kf a) (kf a) = true

section
variable {κ : Type} [DecidableEq κ]

/-- What a list of keys and values holds at a key. -/
def mget : List (κ × Value) → κ → Option Value
  | [], _ => none
  | p :: M, k => if p.1 = k then some p.2 else mget M k
def mset : List (κ × Value) → κ → Value → List (κ × Value)
  | [], k, v => [(k, v)]
  | p :: M, k, v => if p.1 = k then (k, v) :: M else p :: mset M k v
def mdel : List (κ × Value) → κ → List (κ × Value)
  | [], _ => []
  | p :: M, k => if p.1 = k then M else p :: mdel M k
def mkeys (M : List (κ × Value)) : List κ := M.map (·.1)

theorem mget_none {M : List (κ × Value)} {k : κ} : mget M k = none ↔ k ∉ mkeys M := by
  induction M with
  | nil => simp [mget, mkeys]
  | cons p M ih =>
    simp only [mget, mkeys, List.map_cons, List.mem_cons] at *
    by_cases h : p.1 = k
    · simp [h]
    · rw [if_neg h, ih]
      constructor
      · intro h2 h3
        exact h3.elim (fun e => h e.symm) h2
      · intro h2 h3
        exact h2 (.inr h3)
theorem mget_mset (M : List (κ × Value)) (k j : κ) (v : Value) : mget (mset M k v) j = if k = j then some v else mget M j := by
  induction M with
  | nil => simp [mset, mget]
  | cons p M ih =>
    simp only [mset]
    by_cases h : p.1 = k
    · rw [if_pos h]
      simp only [mget]
      by_cases h2 : k = j
      · simp [h2]
      · rw [if_neg h2, if_neg h2, if_neg (fun e => h2 (h.symm.trans e))]
    · rw [if_neg h]
      simp only [mget]
      by_cases h2 : p.1 = j
      · rw [if_pos h2, if_pos h2, if_neg (fun e => h (h2.trans e.symm))]
      · rw [if_neg h2, if_neg h2, ih]
theorem mkeys_mset (M : List (κ × Value)) (k : κ) (v : Value) : mkeys (mset M k v) = if k ∈ mkeys M then mkeys M else mkeys M ++ [k] := by
  induction M with
  | nil => simp [mset, mkeys]
  | cons p M ih =>
    simp only [mset, mkeys] at *
    by_cases h : p.1 = k
    · simp [h]
    · rw [if_neg h]
      simp only [List.map_cons, List.mem_cons, ih]
      have h' : ¬ k = p.1 := fun e => h e.symm
      by_cases h2 : k ∈ M.map (·.1)
      · simp [h2]
      · simp [h2, h']
theorem nodup_mset {M : List (κ × Value)} (h : (mkeys M).Nodup) (k : κ) (v : Value) : (mkeys (mset M k v)).Nodup := by
  rw [mkeys_mset]
  split
  · exact h
  · rename_i hk
    rw [List.nodup_append]
    refine ⟨h, by simp, ?_⟩
    intro a ha b hb
    simp only [List.mem_singleton] at hb
    subst hb
    exact fun e => hk (e ▸ ha)
theorem mkeys_mdel_sub (M : List (κ × Value)) (k : κ) : (mkeys (mdel M k)).Sublist (mkeys M) := by
  induction M with
  | nil => simp [mdel, mkeys]
  | cons p M ih =>
    simp only [mdel, mkeys] at *
    split
    · simp
    · simpa using ih
theorem nodup_mdel {M : List (κ × Value)} (h : (mkeys M).Nodup) (k : κ) : (mkeys (mdel M k)).Nodup := (mkeys_mdel_sub M k).nodup h
theorem mget_mdel {M : List (κ × Value)} (h : (mkeys M).Nodup) (k j : κ) : mget (mdel M k) j = if k = j then none else mget M j := by
  induction M with
  | nil => simp [mdel, mget]
  | cons p M ih =>
    simp only [mkeys, List.map_cons, List.nodup_cons] at h
    simp only [mdel]
    by_cases h1 : p.1 = k
    · rw [if_pos h1]
      simp only [mget]
      by_cases h2 : k = j
      · rw [if_pos h2, mget_none]
        rw [← h2, ← h1]
        exact h.1
      · rw [if_neg h2, if_neg (fun e => h2 (h1.symm.trans e))]
    · rw [if_neg h1]
      simp only [mget]
      by_cases h2 : p.1 = j
      · rw [if_pos h2, if_pos h2, if_neg (fun e => h1 (h2.trans e.symm))]
      · rw [if_neg h2, if_neg h2, ih h.2]

/-! ### the entries -/
def entOf (e : MapEntry) : Value × Value := (e.key, e.val)
/-- The entries es hold M's keys and values, in their order, each with a number of its own below clock. -/
structure Ents (kf : κ → Value) (es : List MapEntry) (clock : Nat) (M : List (κ × Value)) : Prop where
  same : es.map entOf = M.map fun p => (kf p.1, p.2)
  nodup : (mkeys M).Nodup
  born : (es.map (·.born)).Nodup
  lt : ∀ e ∈ es, e.born < clock

theorem findNow_is {d : TypeDesc} {kf : κ → Value} (hd : ∀ a b, Instr.sameNow d (kf a) (kf b) = some (decide (a = b))) (k : κ) :
    ∀ (es : List MapEntry) (M : List (κ × Value)) (i : Nat), es.map entOf = M.map (fun p => (kf p.1, p.2)) →
      (mget M k = none ∧ Instr.findNow d (kf k) es i = some none) ∨ ∃ j v, mget M k = some v ∧ Instr.findNow d (kf k) es i = some (some (i + j, v)) ∧ (∃ e, es[j]? = some e ∧ e.key = kf k) ∧ (∀ v', (es.modify j fun e => { e with key := kf k, val := v' }).map entOf = (mset M k v').map fun p => (kf p.1, p.2)) ∧ (es.eraseIdx j).map entOf = (mdel M k).map fun p => (kf p.1, p.2) := by
  intro es
  induction es with
  | nil =>
    intro M i h
    have : M = [] := by simpa using h.symm
    subst this
    exact .inl ⟨rfl, rfl⟩
  | cons e es ih =>
    intro M i h
    cases M with
    | nil => simp at h
    | cons p M =>
      simp only [List.map_cons, List.cons.injEq] at h
      obtain ⟨h1, h2⟩ := h
      have hk : e.key = kf p.1 := congrArg Prod.fst h1
      have hv : e.val = p.2 := congrArg Prod.snd h1
      simp only [Instr.findNow, hk, hd, mget, mset, mdel]
      by_cases hp : p.1 = k
      · refine .inr ⟨0, p.2, by simp [hp], by simp [hp, hv], ⟨e, rfl, by rw [hk, hp]⟩, ?_, ?_⟩
        · intro v'
          simp [hp, h2, entOf]
        · simp [hp, h2]
      · have hp' : ¬ k = p.1 := fun e => hp e.symm
        simp only [hp, hp', decide_false, if_false]
        rcases ih M (i + 1) h2 with ⟨g1, g2⟩ | ⟨j, v, g1, g2, g3, g4, g5⟩
        · exact .inl ⟨g1, g2⟩
        · refine .inr ⟨j + 1, v, g1, by rw [g2]; congr 3; omega, by simpa using g3, ?_, ?_⟩
          · intro v'
            simp [List.modify_succ_cons, h1, g4 v']
          · simp [h1, g5]

/-- Block m of w is a map that holds M. -/
def MapAt (kf : κ → Value) (w : World) (m : Nat) (M : List (κ × Value)) : Prop := ∃ es clock, w.heap[m]? = some (.map es clock) ∧ Ents kf es.toList clock M

omit [DecidableEq κ] in
theorem MapAt.lt {kf : κ → Value} {w : World} {m : Nat} {M : List (κ × Value)} (h : MapAt kf w m M) : m < w.heap.size := by
  obtain ⟨es, c, h, _⟩ := h
  exact lt_of_block h
omit [DecidableEq κ] in
theorem MapAt.upd {kf : κ → Value} {S : List Nat} {w w' : World} {m : Nat} {M : List (κ × Value)} (h : MapAt kf w m M) (u : Upd S w w') (hm : m ∉ S) : MapAt kf w' m M := by
  obtain ⟨es, c, h, h2⟩ := h
  exact ⟨es, c, u.heap h hm, h2⟩
omit [DecidableEq κ] in
theorem MapAt.new (kf : κ → Value) (w : World) : MapAt kf (w.alloc (.map #[] 0)) w.heap.size [] :=
  ⟨#[], 0, heap_alloc_new w _, ⟨rfl, List.nodup_nil, List.nodup_nil, by simp⟩⟩

theorem heap_set (w : World) (m : Nat) (o : Obj) (h : m < w.heap.size) : ({ w with heap := w.heap.setIfInBounds m o } : World).heap[m]? = some o := by
  simp [h]
theorem Upd.setObj (w : World) (m : Nat) (o : Obj) : Upd [m] w { w with heap := w.heap.setIfInBounds m o } := by
  refine ⟨rfl, rfl, rfl, by simp, ?_⟩
  intro k hk hn
  simp only [List.mem_singleton] at hn
  exact Array.getElem?_setIfInBounds_ne (fun e => hn e.symm)

section
variable {P : Program} {kf : κ → Value}
theorem run_lookup_some {kt : TypeId} (K : KeyOk P kt kf) {t e : TypeId} (ht : P.underlying t = some (.map kt e)) {w : World} {m : Nat} {M : List (κ × Value)} (h : MapAt kf w m M) (k : κ) (v : Value) (hv : mget M k = some v) (b : Bool) :
    (Instr.lookup t (.map (some m)) (kf k) b).run P w = .ok (if b then .tuple #[v, .bool true] else v) w := by
  obtain ⟨es, c, hh, E⟩ := h
  obtain ⟨d, hd, hd2⟩ := K.cmp
  rcases findNow_is hd2 k es.toList M 0 E.same with ⟨g1, _⟩ | ⟨j, v', g1, g2, _⟩
  · rw [g1] at hv; cases hv
  · rw [g1] at hv
    cases hv
    simp [Instr.lookup, run_underlying ht, run_underlying hd, getObj, Sem.run, hh, K.check, Instr.findKey, g2]
theorem run_lookup_none {kt : TypeId} (K : KeyOk P kt kf) {t e : TypeId} (ht : P.underlying t = some (.map kt e)) {w : World} {m : Nat} {M : List (κ × Value)} (h : MapAt kf w m M) (k : κ) (hv : mget M k = none) (z : Value) (hz : (zeroValue e).run P w = .ok z w) (b : Bool) :
    (Instr.lookup t (.map (some m)) (kf k) b).run P w = .ok (if b then .tuple #[z, .bool false] else z) w := by
  obtain ⟨es, c, hh, E⟩ := h
  obtain ⟨d, hd, hd2⟩ := K.cmp
  rcases findNow_is hd2 k es.toList M 0 E.same with ⟨_, g2⟩ | ⟨j, v', g1, g2, _⟩
  · simp [Instr.lookup, run_underlying ht, run_underlying hd, getObj, Sem.run, hh, K.check, Instr.findKey, g2, hz]
  · rw [g1] at hv; cases hv
theorem run_mapUpdate {kt : TypeId} (K : KeyOk P kt kf) {t e : TypeId} (ht : P.underlying t = some (.map kt e)) {w : World} {m : Nat} {M : List (κ × Value)} (h : MapAt kf w m M) (k : κ) (v : Value) :
    ∃ w', (Instr.mapUpdate t (.map (some m)) (kf k) v).run P w = .ok () w' ∧ MapAt kf w' m (mset M k v) ∧ Upd [m] w w' := by
  obtain ⟨es, c, hh, E⟩ := h
  obtain ⟨d, hd, hd2⟩ := K.cmp
  have hlt := lt_of_block hh
  rcases findNow_is hd2 k es.toList M 0 E.same with ⟨g1, g2⟩ | ⟨j, v', g1, g2, ⟨e0, g3, g4⟩, g5, _⟩
  · refine ⟨_, by simp [Instr.mapUpdate, run_underlying ht, run_underlying hd, getObj, setObj, Sem.run, hh, K.check, Instr.findKey, g2]; rfl, ⟨_, _, heap_set _ _ _ hlt, ?_⟩, Upd.setObj _ _ _⟩
    have hk := mget_none.1 g1
    have hm : mset M k v = M ++ [(k, v)] := by
      clear E g2
      induction M with
      | nil => rfl
      | cons p M ih =>
        simp only [mkeys, List.map_cons, List.mem_cons, not_or] at hk
        have hg : mget M k = none := mget_none.2 hk.2
        simp only [mset, if_neg (fun e => hk.1 (Eq.symm e)), List.cons_append]
        rw [ih hg hk.2]
    refine ⟨by rw [hm]; simp [E.same, entOf], nodup_mset E.nodup k v, ?_, ?_⟩
    · simp only [Array.toList_push, List.map_append, List.map_cons, List.map_nil]
      rw [List.nodup_append]
      refine ⟨E.born, by simp, ?_⟩
      intro a ha b hb
      simp only [List.mem_singleton] at hb
      obtain ⟨e1, he1, rfl⟩ := List.mem_map.1 ha
      have := E.lt e1 he1
      omega
    · intro e1 he1
      simp only [Array.toList_push, List.mem_append, List.mem_singleton] at he1
      rcases he1 with he1 | rfl
      · have := E.lt e1 he1; omega
      · exact Nat.lt_succ_self _
  · simp only [Nat.zero_add] at g2
    have hkey : ((es[j]?).map (·.key)).getD (kf k) = kf k := by
      rw [← Array.getElem?_toList, g3]; simp [g4]
    refine ⟨_, by simp [Instr.mapUpdate, run_underlying ht, run_underlying hd, getObj, setObj, Sem.run, hh, K.check, Instr.findKey, g2, hkey, Instr.keyThatStays, K.bits]; rfl, ⟨_, _, heap_set _ _ _ hlt, ?_⟩, Upd.setObj _ _ _⟩
    have hb : ((es.modify j fun e => { e with key := kf k, val := v }).toList.map (·.born)) = es.toList.map (·.born) := by
      rw [Array.toList_modify]
      refine List.ext_getElem (by simp) ?_
      intro i h1 h2
      simp only [List.getElem_map, List.getElem_modify]
      split <;> rfl
    refine ⟨by rw [Array.toList_modify]; exact g5 v, nodup_mset E.nodup k v, by rw [hb]; exact E.born, ?_⟩
    intro e1 he1
    have : e1.born ∈ es.toList.map (·.born) := by rw [← hb]; exact List.mem_map_of_mem he1
    obtain ⟨e2, he2, h3⟩ := List.mem_map.1 this
    rw [← h3]
    exact E.lt e2 he2
theorem run_delete {kt : TypeId} (K : KeyOk P kt kf) {t e : TypeId} (ht : P.underlying t = some (.map kt e)) {w : World} {m : Nat} {M : List (κ × Value)} (h : MapAt kf w m M) (k : κ) (ty : TypeId) :
    ∃ w', (Builtin.delete_ #[t, kt] ty #[.map (some m), kf k]).run P w = .ok (.tuple #[]) w' ∧ MapAt kf w' m (mdel M k) ∧ Upd [m] w w' := by
  obtain ⟨es, c, hh, E⟩ := h
  obtain ⟨d, hd, hd2⟩ := K.cmp
  have hlt := lt_of_block hh
  rcases findNow_is hd2 k es.toList M 0 E.same with ⟨g1, g2⟩ | ⟨j, v', g1, g2, ⟨e0, g3, g4⟩, _, g5⟩
  · have hk := mget_none.1 g1
    have hm : mdel M k = M := by
      clear E g2
      induction M with
      | nil => rfl
      | cons p M ih =>
        simp only [mkeys, List.map_cons, List.mem_cons, not_or] at hk
        simp only [mdel, if_neg (fun e => hk.1 (Eq.symm e))]
        rw [ih (mget_none.2 hk.2) hk.2]
    refine ⟨_, by simp [Builtin.delete_, run_underlying ht, run_underlying hd, getObj, setObj, Sem.run, hh, K.check, Instr.findKey, g2]; rfl, ⟨_, _, heap_set _ _ _ hlt, ?_⟩, Upd.setObj _ _ _⟩
    rw [hm]
    exact E
  · simp only [Nat.zero_add] at g2
    refine ⟨_, by simp [Builtin.delete_, run_underlying ht, run_underlying hd, getObj, setObj, Sem.run, hh, K.check, Instr.findKey, g2]; rfl, ⟨_, _, heap_set _ _ _ hlt, ?_⟩, Upd.setObj _ _ _⟩
    have hj : j < es.size := by
      have := (List.getElem?_eq_some_iff.1 g3).1
      simpa using this
    have hl : (es.eraseIdxIfInBounds j).toList = es.toList.eraseIdx j := by
      simp [Array.eraseIdxIfInBounds, hj]
    refine ⟨by rw [hl]; exact g5, nodup_mdel E.nodup k, ?_, ?_⟩
    · rw [hl]
      exact ((List.eraseIdx_sublist es.toList j).map _).nodup E.born
    · intro e1 he1
      rw [hl] at he1
      exact E.lt e1 ((List.eraseIdx_sublist es.toList j).subset he1)
/-- 'm[k] = v'. -/
theorem wpList_mapSet {kt e : TypeId} (K : KeyOk P kt kf) {w : World} {ops : Array Oper} {rest : List Oper} {o : Oper} {a : Act} {Q : Exit → Act → World → Prop} (hg : o.guard = none) (mo x v : Operand) (t : TypeId) (hop : o.op = Op.mapUpdate t mo x v)
    (ht : P.underlying t = some (.map kt e)) (m : Nat) (M : List (κ × Value)) (k : κ) (val : Value) (hm : a.eval mo = .map (some m)) (hx : a.eval x = kf k) (hv : a.eval v = val) (h : MapAt kf w m M)
    (hK : ∀ w', MapAt kf w' m (mset M k val) → Upd [m] w w' → wpList P ops Q rest (a.put o.dst undef) w') : wpList P ops Q (o :: rest) a w := by
  refine wpList_plain hg fun K' hK' => ?_
  obtain ⟨w', hrun, r1, r2⟩ := run_mapUpdate K ht h k val
  unfold Oper.wp
  simp [execOp, hop, hm, hx, hv, hrun, Result.andThen]
  exact hK' _ _ (hK w' r1 r2)
/-- 'delete(m, k)'. -/
theorem wpList_mapDel {kt e : TypeId} (K : KeyOk P kt kf) {w : World} {ops : Array Oper} {rest : List Oper} {o : Oper} {a : Act} {Q : Exit → Act → World → Prop} (hg : o.guard = none) (mo x : Operand) (t : TypeId) (hop : o.op = Op.call { callee := Callee.builtin Builtin.delete, args := #[mo, x], argTypes := #[t, kt] })
    (ht : P.underlying t = some (.map kt e)) (m : Nat) (M : List (κ × Value)) (k : κ) (hm : a.eval mo = .map (some m)) (hx : a.eval x = kf k) (h : MapAt kf w m M)
    (hK : ∀ w', MapAt kf w' m (mdel M k) → Upd [m] w w' → wpList P ops Q rest (a.put o.dst (.tuple #[])) w') : wpList P ops Q (o :: rest) a w := by
  refine wpList_plain hg fun K' hK' => ?_
  obtain ⟨w', hrun, r1, r2⟩ := run_delete K ht h k o.type
  unfold Oper.wp
  simp [execOp, hop, resolve, invoke, builtin, hm, hx, hrun, Result.andThen]
  exact hK' _ _ (hK w' r1 r2)
end
end
theorem checkKey_int {P : Program} {kt : TypeId} (h : P.underlying kt = some (.int .i64)) (n : Nat) (a : Int) (e : Bool) (w : World) : (Instr.checkKey e (n + 1) kt (.int .i64 a)).run P w = .ok () w := by
  simp [Instr.checkKey, run_underlying h]
theorem checkKey_str {P : Program} {kt : TypeId} (h : P.underlying kt = some .string) (n : Nat) (a : ByteArray) (e : Bool) (w : World) : (Instr.checkKey e (n + 1) kt (.string a)).run P w = .ok () w := by
  simp [Instr.checkKey, run_underlying h]
theorem keyOk_int {P : Program} {kt : TypeId} (h : P.underlying kt = some (.int .i64)) : KeyOk P kt (fun n : Int => Value.int .i64 n) := by
  refine ⟨⟨_, h, fun a b => ?_⟩, fun a e w => checkKey_int h 9999 a e w, fun a => ?_⟩
  · simp only [Instr.sameNow, if_true]
    congr 1
  · simp [Instr.sameBits]
theorem keyOk_str {P : Program} {kt : TypeId} (h : P.underlying kt = some .string) : KeyOk P kt (fun l : List UInt8 => Value.string ⟨l.toArray⟩) := by
  refine ⟨⟨_, h, fun a b => ?_⟩, fun a e w => checkKey_str h 9999 _ e w, fun a => ?_⟩
  · simp only [Instr.sameNow, str_eq]
  · simp only [Instr.sameBits, str_eq, decide_true]
end Go.Proofs.YtpcndlipdfcnfaaDoor
