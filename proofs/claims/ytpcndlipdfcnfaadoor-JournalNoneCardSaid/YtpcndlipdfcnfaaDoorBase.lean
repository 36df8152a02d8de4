/- Base words of our own proofs: worlds that keep all blocks but some; slices that read as lists. No program in sight. -/
import Derived.WalkKit
import Derived.WalkSpells
import Derived.WalkLawsBesides
import Derived.Lib.AppendStr
import Derived.Deep.RegionHeld3
import Derived.Deep.AppendLies
import Derived.Laws.BytesArg
import Derived.Lib.ConvBytes
import Derived.Laws.AppendOwnNone
import Derived.Deep.LoopGhost
import Derived.Deep.QuietTactic
import Derived.BigQuiet
namespace Go.Proofs.YtpcndlipdfcnfaaDoor
open Go Go.RowKit

/-- A fact that the walk does not see. -/
structure Sd (p : Prop) : Prop where out : p
theorem maxLen_is : maxLen = 9223372036854775807 := rfl

/-- All blocks of w but those of S are in w' as they were; the streams too. -/
structure Upd (S : List Nat) (w w' : World) : Prop where
  os : w'.os = w.os
  tape : w'.tape = w.tape
  output : w'.output = w.output
  size : w.heap.size ≤ w'.heap.size
  block : ∀ k, k < w.heap.size → k ∉ S → w'.heap[k]? = w.heap[k]?

theorem Upd.refl (S : List Nat) (w : World) : Upd S w w := ⟨rfl, rfl, rfl, Nat.le_refl _, fun _ _ _ => rfl⟩
theorem Upd.trans' {S T U : List Nat} {a b c : World} (h : Upd S a b) (k : Upd T b c) (hS : ∀ x ∈ S, x ∈ U ∨ a.heap.size ≤ x) (hT : ∀ x ∈ T, x ∈ U ∨ a.heap.size ≤ x) : Upd U a c :=
  ⟨k.os.trans h.os, k.tape.trans h.tape, k.output.trans h.output, Nat.le_trans h.size k.size, fun i hi hU =>
    (k.block i (Nat.lt_of_lt_of_le hi h.size) (fun hm => (hT i hm).elim hU (fun hge => Nat.not_lt_of_le hge hi))).trans (h.block i hi (fun hm => (hS i hm).elim hU (fun hge => Nat.not_lt_of_le hge hi)))⟩
theorem Upd.trans {S : List Nat} {a b c : World} (h : Upd S a b) (k : Upd S b c) : Upd S a c := h.trans' k (fun _ hx => .inl hx) (fun _ hx => .inl hx)
/-- A step that keeps all, then one that turns S. -/
theorem Upd.then {S : List Nat} {a b c : World} (h : Upd [] a b) (k : Upd S b c) : Upd S a c := h.trans' k (by simp) (fun _ hx => .inl hx)
theorem Upd.and {S : List Nat} {a b c : World} (h : Upd S a b) (k : Upd [] b c) : Upd S a c := h.trans' k (fun _ hx => .inl hx) (by simp)
theorem Upd.weaken {S U : List Nat} {a b : World} (h : Upd S a b) (hS : ∀ x ∈ S, x ∈ U ∨ a.heap.size ≤ x) : Upd U a b := (Upd.refl [] a).trans' h (by simp) hS
theorem Upd.mono {S U : List Nat} {a b : World} (h : Upd S a b) (hS : ∀ x ∈ S, x ∈ U) : Upd U a b := h.weaken fun x hx => .inl (hS x hx)
theorem Upd.ofNil {S : List Nat} {a b : World} (h : Upd [] a b) : Upd S a b := h.weaken (by simp)
/-- What is turned is new. -/
theorem Upd.fresh {S : List Nat} {a b : World} (h : Upd S a b) (hS : ∀ x ∈ S, a.heap.size ≤ x) : Upd [] a b := h.weaken fun x hx => .inr (hS x hx)
theorem Upd.drew {S : List Nat} {a b : World} (h : Upd S a b) : Upd S a b.drew := ⟨h.os, h.tape, h.output, h.size, h.block⟩
theorem Upd.drewN {S : List Nat} {a b : World} (n : Nat) (h : Upd S a b) : Upd S a (b.drewN n) := ⟨h.os, h.tape, h.output, h.size, h.block⟩
theorem Upd.ofDrew {S : List Nat} {a b : World} (h : Upd S a.drew b) : Upd S a b := ⟨h.os, h.tape, h.output, h.size, h.block⟩
theorem Upd.alloc {S : List Nat} {a b : World} (h : Upd S a b) (o : Obj) : Upd S a (b.alloc o) :=
  h.trans ⟨rfl, rfl, rfl, by simp, fun k hk _ => Below.heap_alloc _ _ _ hk⟩
theorem Upd.setCell {S : List Nat} {a b : World} (h : Upd S a b) {p : Addr} (v : Value) (hp : p.block ∈ S ∨ a.heap.size ≤ p.block) : Upd S a (b.setCell p v) :=
  h.trans' (T := [p.block]) ⟨rfl, rfl, rfl, by simp, fun k _ hk => Below.heap_setCell _ _ _ _ (by simpa using hk)⟩ (fun _ hx => .inl hx) (by simpa using hp)
theorem Upd.ofBelow {a b : World} (h : Below a.heap.size a b) : Upd [] a b := ⟨h.os, h.tape, h.output, h.size, fun k hk _ => h.block k hk⟩
theorem Upd.below {S : List Nat} {a b : World} {B : Nat} (h : Upd S a b) (hB : B ≤ a.heap.size) (hS : ∀ x ∈ S, B ≤ x) : Below B a b :=
  ⟨h.os, h.tape, h.output, h.size, fun k hk => h.block k (Nat.lt_of_lt_of_le hk hB) (fun hm => absurd (hS k hm) (Nat.not_le_of_lt hk))⟩
theorem Upd.ofGrown {a b : World} {row : Option Nat} (h : a.grownBy b row) : Upd row.toList a b :=
  ⟨h.os, h.tape, h.output, h.size, fun k hk hn => h.block k hk (fun e => hn (by simp [← e]))⟩
theorem Upd.heap {S : List Nat} {a b : World} (h : Upd S a b) {k : Nat} {o : Obj} (hk : a.heap[k]? = some o) (hS : k ∉ S) : b.heap[k]? = some o :=
  (h.block k (lt_of_block hk) hS).trans hk
theorem Upd.cell {S : List Nat} {a b : World} (h : Upd S a b) {p : Addr} {v : Value} (hc : a.cell? p = some v) (hS : p.block ∉ S) : b.cell? p = some v := by
  rw [World.cell?_of_block (w := a) (h.block p.block (World.block_lt_of_cell? _ _ hc) hS)]; exact hc
theorem Upd.lt {S : List Nat} {a b : World} (h : Upd S a b) {k : Nat} (hk : k < a.heap.size) : k < b.heap.size := Nat.lt_of_lt_of_le hk h.size

/-- The cells of a block that is known whole. -/
theorem cell_of {w : World} {b k : Nat} {c : Array Value} {t : TypeId} {f : Nat × Nat} {v : Value} (h : w.heap[b]? = some (.cells c t f)) (hk : c[k]? = some v) : w.cell? ⟨b, k, none⟩ = some v := by
  simp [World.cell?, h, hk]
theorem free_of {w : World} {b : Nat} {c : Array Value} {t : TypeId} (h : w.heap[b]? = some (.cells c t (0, 0))) (k : Nat) : w.frozen? ⟨b, k, none⟩ = false := by
  simp [World.frozen?, h]
theorem heap_setCell_same {w : World} {b k : Nat} {c : Array Value} {t : TypeId} {f : Nat × Nat} (v : Value) (h : w.heap[b]? = some (.cells c t f)) : (w.setCell ⟨b, k, none⟩ v).heap[b]? = some (.cells (c.setIfInBounds k v) t f) := by
  simp [World.setCell, Array.getElem?_modify, h]
theorem heap_setCell_ne {w : World} {b : Nat} {p : Addr} (v : Value) (h : b ≠ p.block) : (w.setCell p v).heap[b]? = w.heap[b]? := Below.heap_setCell _ _ _ _ h
theorem heap_alloc_lt {w : World} {b : Nat} (o : Obj) (h : b < w.heap.size) : (w.alloc o).heap[b]? = w.heap[b]? := Below.heap_alloc _ _ _ h
theorem heap_alloc_new (w : World) (o : Obj) : (w.alloc o).heap[w.heap.size]? = some o := by
  show (w.heap.push o)[w.heap.size]? = _
  simp

/-- A slice value that reads as a list of one-cell elements, outside the blocks of M. -/
def Rd (M : List Nat) (w : World) (v : Value) (xs : List Value) : Prop :=
  (v = .slice none 0 0 ∧ xs = []) ∨
  ∃ b off c, v = .slice (some ⟨b, off, none⟩) xs.length c ∧ xs.length ≤ c ∧ c ≤ maxLen ∧ b ∉ M ∧ b < w.heap.size ∧ ∀ j x, xs[j]? = some x → w.cell? ⟨b, off + j, none⟩ = some x

theorem Rd.nil (M : List Nat) (w : World) : Rd M w (.slice none 0 0) [] := .inl ⟨rfl, rfl⟩
theorem Rd.upd {M S : List Nat} {w w' : World} {v : Value} {xs : List Value} (h : Rd M w v xs) (u : Upd S w w') (hS : ∀ x ∈ S, x ∈ M ∨ w.heap.size ≤ x) : Rd M w' v xs := by
  rcases h with h | ⟨b, off, c, hv, h1, h2, h3, h4, h5⟩
  · exact .inl h
  · have hb : b ∉ S := fun hm => (hS b hm).elim h3 (fun hge => Nat.not_lt_of_le hge h4)
    exact .inr ⟨b, off, c, hv, h1, h2, h3, u.lt h4, fun j x hj => u.cell (h5 j x hj) hb⟩
theorem Rd.keep {M : List Nat} {w w' : World} {v : Value} {xs : List Value} (h : Rd M w v xs) (u : Upd [] w w') : Rd M w' v xs := h.upd u (by simp)
theorem Rd.more {M M' : List Nat} {w : World} {v : Value} {xs : List Value} (h : Rd M w v xs) (hM : ∀ x ∈ M', x ∈ M ∨ w.heap.size ≤ x) : Rd M' w v xs := by
  rcases h with h | ⟨b, off, c, hv, h1, h2, h3, h4, h5⟩
  · exact .inl h
  · exact .inr ⟨b, off, c, hv, h1, h2, fun hm => (hM b hm).elim h3 (fun hge => Nat.not_lt_of_le hge h4), h4, h5⟩
theorem Rd.anyM {M : List Nat} {w : World} {v : Value} {xs : List Value} (h : Rd M w v xs) : Rd [] w v xs := h.more (by simp)

/-- Bytes. -/
def u8v (b : UInt8) : Value := .int .u8 (b.toNat : Int)
def Bs (M : List Nat) (w : World) (v : Value) (l : List UInt8) : Prop := Rd M w v (l.map u8v)
theorem Bs.keep {M : List Nat} {w w' : World} {v : Value} {l : List UInt8} (h : Bs M w v l) (u : Upd [] w w') : Bs M w' v l := Rd.keep h u
theorem Bs.upd {M S : List Nat} {w w' : World} {v : Value} {l : List UInt8} (h : Bs M w v l) (u : Upd S w w') (hS : ∀ x ∈ S, x ∈ M ∨ w.heap.size ≤ x) : Bs M w' v l := Rd.upd h u hS
theorem Bs.more {M M' : List Nat} {w : World} {v : Value} {l : List UInt8} (h : Bs M w v l) (hM : ∀ x ∈ M', x ∈ M ∨ w.heap.size ≤ x) : Bs M' w v l := Rd.more h hM
theorem Bs.nil (M : List Nat) (w : World) : Bs M w (.slice none 0 0) [] := Rd.nil M w
/-- Bytes, laid open. -/
theorem Bs.cases {M : List Nat} {w : World} {v : Value} {l : List UInt8} (h : Bs M w v l) : (v = .slice none 0 0 ∧ l = []) ∨
    ∃ b off c, v = .slice (some ⟨b, off, none⟩) l.length c ∧ l.length ≤ c ∧ c ≤ maxLen ∧ b ∉ M ∧ b < w.heap.size ∧ ∀ j x, l[j]? = some x → w.cell? ⟨b, off + j, none⟩ = some (.int .u8 (x.toNat : Int)) := by
  rcases h with ⟨hv, hl⟩ | ⟨b, off, c, hv, h1, h2, h3, h4, h5⟩
  · exact .inl ⟨hv, by simpa using hl⟩
  · refine .inr ⟨b, off, c, by simpa using hv, by simpa using h1, h2, h3, h4, fun j x hj => ?_⟩
    exact h5 j (u8v x) (by simp [hj])
theorem Bs.mk {M : List Nat} {w : World} {l : List UInt8} {b off c : Nat} (h1 : l.length ≤ c) (h2 : c ≤ maxLen) (h3 : b ∉ M) (h4 : b < w.heap.size)
    (h5 : ∀ j x, l[j]? = some x → w.cell? ⟨b, off + j, none⟩ = some (.int .u8 (x.toNat : Int))) : Bs M w (.slice (some ⟨b, off, none⟩) l.length c) l := by
  refine .inr ⟨b, off, c, by simp, by simpa using h1, h2, h3, h4, fun j x hj => ?_⟩
  simp only [List.getElem?_map, Option.map_eq_some_iff] at hj
  obtain ⟨y, hy, rfl⟩ := hj
  exact h5 j y hy
theorem Bs.len {M : List Nat} {w : World} {v : Value} {l : List UInt8} (h : Bs M w v l) : l.length ≤ maxLen := by
  rcases h.cases with ⟨_, rfl⟩ | ⟨b, off, c, _, h1, h2, _⟩
  · simp
  · omega

/-- What a row of one-cell elements that a call made reads as. -/
theorem Rd.ofOwns {M : List Nat} {w : World} {base : Nat} {e : TypeId} {v : Value} {n : Nat} {xs : List Value} (h : w.ownsRow base e 1 v n xs) (hM : ∀ x ∈ M, x < base) : Rd M w v xs := by
  obtain ⟨h1, h2⟩ := h
  rcases h2 with ⟨rfl, rfl⟩ | ⟨g, cap, cur, rfl, hg, hh, hn, hcap, hsz, htake⟩
  · exact .inl ⟨rfl, List.eq_nil_of_length_eq_zero (by omega)⟩
  · refine .inr ⟨g, 0, cap, by simp [h1], by omega, hcap, fun hm => absurd (hM g hm) (by omega), lt_of_block hh, fun j x hj => ?_⟩
    rw [← htake] at hj
    have hj' : cur.toList[j]? = some x := by
      rw [List.getElem?_take] at hj
      split at hj
      · exact hj
      · simp at hj
    simp only [Nat.zero_add]
    exact cell_of hh (by simpa using hj')

/-! ### append onto a row of the call's own; elements of one cell -/
def Ow (e : TypeId) (B : Nat) (w : World) (v : Value) (xs : List Value) : Prop := w.ownsRow B e 1 v xs.length xs
theorem Ow.nil (e : TypeId) (B : Nat) (w : World) : Ow e B w (.slice none 0 0) [] := World.ownsRow_nil w B e 1
theorem Ow.rd {e : TypeId} {B : Nat} {w : World} {v : Value} {xs : List Value} (h : Ow e B w v xs) (M : List Nat) (hM : ∀ x ∈ M, x < B) : Rd M w v xs := Rd.ofOwns h hM
theorem Ow.shape {e : TypeId} {B : Nat} {w : World} {v : Value} {xs : List Value} (h : Ow e B w v xs) : (v = .slice none 0 0 ∧ xs = []) ∨ ∃ g cap, v = .slice (some ⟨g, 0, none⟩) xs.length cap ∧ B ≤ g ∧ g < w.heap.size ∧ xs.length ≤ cap ∧ cap ≤ maxLen := by
  obtain ⟨h1, h2⟩ := h
  rcases h2 with ⟨rfl, h⟩ | ⟨g, cap, cur, rfl, hg, hh, hn, hcap, hsz, htake⟩
  · exact .inl ⟨rfl, List.eq_nil_of_length_eq_zero h⟩
  · exact .inr ⟨g, cap, rfl, hg, lt_of_block hh, hn, hcap⟩
theorem Ow.lower {e : TypeId} {B B' : Nat} {w : World} {v : Value} {xs : List Value} (h : Ow e B w v xs) (hB : B' ≤ B) : Ow e B' w v xs := by
  obtain ⟨h1, h2⟩ := h
  refine ⟨h1, ?_⟩
  rcases h2 with h | ⟨g, cap, cur, rfl, hg, hh, hr⟩
  · exact .inl h
  · exact .inr ⟨g, cap, cur, rfl, by omega, hh, hr⟩
theorem Ow.upd {e : TypeId} {B : Nat} {S : List Nat} {w w' : World} {v : Value} {xs : List Value} (h : Ow e B w v xs) (u : Upd S w w') (hS : ∀ g, v.ownBlock = some g → g ∉ S) : Ow e B w' v xs := by
  obtain ⟨h1, h2⟩ := h
  refine ⟨h1, ?_⟩
  rcases h2 with h | ⟨g, cap, cur, rfl, hg, hh, hr⟩
  · exact .inl h
  · exact .inr ⟨g, cap, cur, rfl, hg, u.heap hh (hS g rfl), hr⟩
theorem Ow.keep {e : TypeId} {B : Nat} {w w' : World} {v : Value} {xs : List Value} (h : Ow e B w v xs) (u : Upd [] w w') : Ow e B w' v xs := h.upd u (by simp)
theorem Ow.block {e : TypeId} {B : Nat} {w : World} {v : Value} {xs : List Value} (h : Ow e B w v xs) : ∀ g ∈ v.ownBlock.toList, B ≤ g := by
  intro g hg
  exact (h.lt g (by simpa using hg)).1
theorem Ow.lt' {e : TypeId} {B : Nat} {w : World} {v : Value} {xs : List Value} (h : Ow e B w v xs) : ∀ g, v.ownBlock = some g → g < w.heap.size := fun g hg => (h.lt g hg).2
/-- The block of a full row. -/
theorem Ow.full {e : TypeId} {B g n : Nat} {w : World} {xs : List Value} (h : w.ownsRow B e 1 (.slice (some ⟨g, 0, none⟩) n n) n xs) : w.heap[g]? = some (.cells xs.toArray e (0, 0)) ∧ xs.length = n := by
  obtain ⟨h1, h2⟩ := h
  rcases h2 with ⟨h, _⟩ | ⟨g', cap, cur, hv, hg, hh, hn, hcap, hsz, htake⟩
  · simp at h
  · simp only [Value.slice.injEq, Option.some.injEq, Addr.mk.injEq] at hv
    obtain ⟨⟨rfl, _, _⟩, _, rfl⟩ := hv
    have : cur = xs.toArray := by
      rw [← htake, List.take_of_length_le (by simp; omega)]
    exact ⟨by rw [hh, this], by omega⟩
theorem Ow.ofBlock {e : TypeId} {B g : Nat} {w : World} {xs : List Value} (h : w.heap[g]? = some (.cells xs.toArray e (0, 0))) (hB : B ≤ g) (hl : xs.length ≤ maxLen) : Ow e B w (.slice (some ⟨g, 0, none⟩) xs.length xs.length) xs :=
  ⟨by simp, .inr ⟨g, xs.length, xs.toArray, rfl, hB, h, Nat.le_refl _, hl, by simp, by simp⟩⟩

/-- append(own, slice): one-cell elements. -/
theorem wpList_app {P : Program} {w : World} {ops : Array Oper} {rest : List Oper} {o : Oper} {a : Act} {Q : Exit → Act → World → Prop} (hgd : o.guard = none) (s x : Operand) (t : TypeId)
    (ho : o.op = .call { callee := .builtin .append, args := #[s, x], argTypes := #[t, t] })
    (e : TypeId) (z : Value) (bytes : Nat) (ht : P.underlying t = some (.slice e)) (hinfo : (P.info? e).map (fun i => (i.zero, i.size, i.bytes)) = some (some z, 1, bytes)) (hz : z.cells.size = 1)
    (B : Nat) (v : Value) (xs : List Value) (hs : a.eval s = v) (hown : Ow e B w v xs) (M : List Nat) (y : Value) (ys : List Value) (hx : a.eval x = y) (hy : Rd M w y ys) (hcell : ∀ u ∈ ys, u.oneCell' = true)
    (hb0 : 0 < bytes) (hbytes : (xs.length + ys.length) * bytes ≤ 140737488355328) (hB : B ≤ w.heap.size)
    (h : ∀ v' w', Ow e B w' v' (xs ++ ys) → Upd v.ownBlock.toList w w' → (v' = .slice none 0 0 ↔ v = .slice none 0 0 ∧ ys = []) → wpList P ops Q rest (a.put o.dst v') w') : wpList P ops Q (o :: rest) a w := by
  obtain ⟨i, hi, hz0, hz1, hz2⟩ := info_parts hinfo
  have hle : xs.length + ys.length ≤ 140737488355328 := Nat.le_trans (Nat.le_mul_of_pos_right _ hb0) hbytes
  rcases hy with ⟨rfl, rfl⟩ | ⟨b, off, c, rfl, h1, h2, h3, h4, h5⟩
  · exact wpList_append_own_none hgd s x t ho B e i 1 ht hi v xs.length xs hs hown hx (h v w (by simpa using hown) (Upd.refl _ _) (by simp))
  · refine wpList_append_own w hgd s x t ho B e i z 1 bytes ht hi hz0 hz1 hz2 hz (by decide) v xs.length xs hs hown ⟨b, off, none⟩ ys.length c ys hx (by simp) (fun j u hj => by rw [Addr.add_lit]; exact h5 j u hj) hcell (by rw [maxLen_is]; omega) hbytes hB ?_
    intro v' w' h1 h2 h3
    exact h v' w' (by simpa [Ow] using h1) (Upd.ofGrown h2) (by rw [h3]; simp)

/-- append(own bytes, string). -/
theorem wpList_app_str {P : Program} {w : World} {ops : Array Oper} {rest : List Oper} {o : Oper} {a : Act} {Q : Exit → Act → World → Prop} (hgd : o.guard = none) (s x : Operand) (t u : TypeId)
    (ho : o.op = .call { callee := .builtin .append, args := #[s, x], argTypes := #[t, u] })
    (e : TypeId) (ht : P.underlying t = some (.slice e)) (hu : P.underlying u = some .string) (hinfo : (P.info? e).map (fun i => (i.zero, i.size, i.bytes)) = some (some (.int .u8 0), 1, 1))
    (B : Nat) (v : Value) (xs : List Value) (hs : a.eval s = v) (hown : Ow e B w v xs) (y : ByteArray) (hx : a.eval x = .string y)
    (hbytes : xs.length + y.size ≤ 140737488355328) (hB : B ≤ w.heap.size)
    (h : ∀ v' w', Ow e B w' v' (xs ++ y.data.toList.map u8v) → Upd v.ownBlock.toList w w' → wpList P ops Q rest (a.put o.dst v') w') : wpList P ops Q (o :: rest) a w := by
  obtain ⟨i, hi, hz0, hz1, hz2⟩ := info_parts hinfo
  refine Lib.wpList_append_own_string (w := w) hgd s x t u ho B e i ht hu hi hz0 hz1 hz2 v xs.length xs hs hown y hx (by rw [maxLen_is]; omega) hbytes hB ?_
  intro v' w' h1 h2 h3
  have hl : xs.length + y.size = (xs ++ Lib.strCells y).length := by simp [Lib.strCells_length]
  rw [hl] at h1
  exact h v' w' h1 (Upd.ofGrown h2)

/-- The run of append(own, make([]T, m)...), one-cell elements. -/
theorem run_app_zeros {P : Program} {w : World} (t ti ty e : TypeId) (i : TypeInfo) (z : Value) (bytes : Nat) (ht : P.underlying t = some (.slice e)) (k : IntKind) (hti : P.underlying ti = some (.int k)) (hi : P.info? e = some i) (hz : i.zero = some z)
    (hsize : i.size = 1) (hby : i.bytes = bytes) (hzs : z.cells.size = 1) (hb0 : 0 < bytes)
    (B : Nat) (v : Value) (xs : List Value) (hown : Ow e B w v xs) (kx : IntKind) (m : Nat) (hzc : (Builtin.zeroCells z.cells m).toList = List.replicate m z) (hone : z.oneCell' = true)
    (hbytes : (xs.length + m) * bytes ≤ 140737488355328) (hB : B ≤ w.heap.size) :
    ∃ v' w', (Builtin.append_ #[t, ti] ty #[v, .int kx m]).run P w = .ok v' w' ∧ Ow e B w' v' (xs ++ List.replicate m z) ∧ w.grownBy w' v.ownBlock := by
  subst hby
  have hle : xs.length + m ≤ 140737488355328 := Nat.le_trans (Nat.le_mul_of_pos_right _ hb0) hbytes
  have hw : IntKind.i64.wrap (m : Int) = m := by rw [IntKind.wrap_i64]; omega
  have hw0 : IntKind.i64.wrap 0 = 0 := by rw [IntKind.wrap_i64]; rfl
  have hneg : ¬ ((m : Int) < 0) := by omega
  have hmb : m * i.bytes ≤ 140737488355328 := Nat.le_trans (Nat.mul_le_mul_right _ (Nat.le_add_left m xs.length)) hbytes
  have hbig : ¬ (281474976710656 < (m : Int) * (i.bytes : Int)) := by rw [← Int.natCast_mul]; omega
  have h63 : xs.length + m ≤ maxLen := by rw [maxLen_is]; omega
  obtain ⟨n, hn⟩ : ∃ n, n = xs.length := ⟨_, rfl⟩
  have hna : Builtin.zeroCells z.cells m = (List.replicate m z).toArray := by rw [← hzc]
  obtain ⟨news, hnews⟩ : ∃ news, news = List.replicate m z := ⟨_, rfl⟩
  have hl : news.length = m := by simp [hnews]
  have hone' : ∀ u ∈ news, u.oneCell' = true := by intro u hu; rw [hnews] at hu; rw [(List.mem_replicate.1 hu).2]; exact hone
  rw [← hnews] at hna ⊢
  unfold Ow at *
  rw [← hn] at hown hle h63 hbytes
  have hlen : (xs ++ news).length = n + m := by simp [hn, hl]
  rw [hlen]
  have grown : ∀ (old : Nat), old < n + m → ∀ (row : Option Nat),
      (w.drew.alloc (.cells (xs.toArray ++ news.toArray ++ Builtin.zeroCells z.cells (grownCap w (n + m) old e - (n + m))) e)).ownsRow B e 1
        (.slice (some ⟨w.heap.size, 0, none⟩) (n + m) (grownCap w (n + m) old e)) (n + m) (xs ++ news) ∧
      w.grownBy (w.drew.alloc (.cells (xs.toArray ++ news.toArray ++ Builtin.zeroCells z.cells (grownCap w (n + m) old e - (n + m))) e)) row := by
    intro old ho row
    have hge := grownCap_ge w (n + m) old e
    have hcm : grownCap w (n + m) old e ≤ maxLen := grownCap_le_maxLen w (n + m) old e h63
    refine ⟨⟨by simp [hlen], .inr ⟨w.heap.size, _, _, rfl, hB, heap_alloc_new w.drew _, hge, hcm, ?_, ?_⟩⟩, ⟨rfl, rfl, rfl, by simp, fun k hk _ => heap_alloc_lt _ hk⟩⟩
    · simp only [Array.size_append, List.size_toArray, size_zeroCells, hzs, hl, ← hn]
      omega
    · simp only [Array.toList_append, Nat.mul_one]
      rw [← hlen]
      exact List.take_left
  have runs : ∀ (A : Option Addr) (cap : Nat), cap < n + m → (Builtin.firstCells 1 n (.slice A n cap)).run P w.drew = .ok xs.toArray w.drew → (Builtin.append_ #[t, ti] ty #[.slice A n cap, .int kx m]).run P w =
      .ok (.slice (some ⟨w.heap.size, 0, none⟩) (n + m) (grownCap w (n + m) cap e)) (w.drew.alloc (.cells (xs.toArray ++ news.toArray ++ Builtin.zeroCells z.cells (grownCap w (n + m) cap e - (n + m))) e)) := by
    intro A cap hcap hfo
    have hn : ¬ (n + m ≤ cap) := by omega
    have h63' : ¬ (9223372036854775807 < ((n : Int) + (m : Int))) := by omega
    have hfit := growslice_fits hcap hbytes
    have h48' : ¬ (281474976710656 < Builtin.nextslicecap (n + m) cap * i.bytes) := by omega
    by_cases hm : m = 0
    · have hnl : news = [] := by rw [hnews, hm]; rfl
      subst hm
      rw [hnl]
      simp only [Nat.add_zero] at hn h63' h48' ⊢
      have h63'' : ¬ (9223372036854775807 < (n : Int)) := by omega
      simp [Builtin.append_, run_underlying ht, run_underlying hti, sizeOf, typeInfo, zeroValue, hi, hz, hsize, asInt, asIntOf, hw0, hn, h63'', h48', Question.forced, hfo, newRow, grownCap]
    · have hmz : ¬ (m * 1 = 0) := by omega
      simp [Builtin.append_, run_underlying ht, run_underlying hti, sizeOf, typeInfo, zeroValue, hi, hz, hsize, asInt, asIntOf, hw, hneg, hbig, hn, h63', h48', Question.forced, hfo, newRow, grownCap, hm, hna]
      congr 2
      apply Array.ext'
      simp [List.append_assoc]
  rcases hown.2 with ⟨rfl, hn0⟩ | ⟨g, cap, cur, rfl, hbg, hg, hnc, hcm, hcs, htake⟩
  · have hx : xs = [] := List.eq_nil_of_length_eq_zero (by omega)
    subst hx
    by_cases hm : m = 0
    · have hnl : news = [] := by rw [hnews, hm]; rfl
      subst hm
      rw [hnl, hn0]
      refine ⟨.slice none 0 0, w, ?_, World.ownsRow_nil w B e 1, ⟨rfl, rfl, rfl, Nat.le_refl _, fun _ _ _ => rfl⟩⟩
      simp [Builtin.append_, run_underlying ht, run_underlying hti, sizeOf, typeInfo, hi, asInt, asIntOf, hw0]
    · have hgr := grown 0 (by omega) (Value.ownBlock (.slice none 0 0))
      have hr := runs none 0 (by omega) (by simp [Builtin.firstCells])
      rw [hn0] at hr hgr ⊢
      exact ⟨_, _, hr, hgr.1, hgr.2⟩
  · by_cases hroom : n + m ≤ cap
    · have hfit : n + news.length ≤ cur.size := by omega
      have hst := run_storeCells_at P g n e news 0 cur w hg (by simpa using hfit) hone'
      simp only [Nat.add_zero] at hst
      refine ⟨.slice (some ⟨g, 0, none⟩) (n + m) cap, w.setRow g (cur.toList.take n ++ news ++ cur.toList.drop (n + news.length)).toArray, ?_, ⟨by simp [hlen], .inr ⟨g, cap, _, rfl, hbg, setRow_heap w g cur _ e _ hg, hroom, hcm, ?_, ?_⟩⟩, ⟨rfl, rfl, rfl, by simp, fun k _ hk => setRow_other w g k _ (fun e => hk (by simp [Value.ownBlock, e]))⟩⟩
      · by_cases hm : m = 0
        · have hnl : news = [] := by rw [hnews, hm]; rfl
          rw [hnl] at hst ⊢
          subst hm
          simp only [Nat.add_zero] at hroom
          simp only [List.length_nil, Nat.add_zero, List.append_nil] at hst ⊢
          simp [Builtin.append_, run_underlying ht, run_underlying hti, sizeOf, typeInfo, hi, hsize, asInt, asIntOf, hw0, hroom, Addr.add_lit, hst]
        · simp [Builtin.append_, run_underlying ht, run_underlying hti, sizeOf, typeInfo, zeroValue, hi, hz, hsize, asInt, asIntOf, hw, hneg, hbig, hroom, hm, hna, Addr.add_lit, hst]
      · simp only [List.size_toArray, List.length_append, List.length_take, List.length_drop, Array.length_toList]
        omega
      · have : cur.toList.take n = xs := by simpa using htake
        simp only [this, Nat.mul_one]
        rw [← hlen]
        exact List.take_left
    · have hgr := grown cap (by omega) (Value.ownBlock (.slice (some ⟨g, 0, none⟩) n cap))
      have holds : ∀ j u, xs[j]? = some u → w.cell? ((⟨g, 0, none⟩ : Addr).add j) = some u := hown.cells (g := g) rfl
      have hfo := run_firstCells_some (P := P) w.drew 1 n ⟨g, 0, none⟩ n cap xs (by simp [hn]) (fun j u hj => holds j u hj)
      exact ⟨_, _, runs (some ⟨g, 0, none⟩) cap (by omega) hfo, hgr.1, hgr.2⟩

/-- append(own, make([]T, m)...). -/
theorem wpList_app_zeros {P : Program} {w : World} {ops : Array Oper} {rest : List Oper} {o : Oper} {a : Act} {Q : Exit → Act → World → Prop} (hgd : o.guard = none) (s x : Operand) (t ti : TypeId)
    (ho : o.op = .call { callee := .builtin .append, args := #[s, x], argTypes := #[t, ti] })
    (e : TypeId) (z : Value) (bytes : Nat) (ht : P.underlying t = some (.slice e)) (k : IntKind) (hti : P.underlying ti = some (.int k)) (hinfo : (P.info? e).map (fun i => (i.zero, i.size, i.bytes)) = some (some z, 1, bytes)) (hz : z.cells = #[z]) (hone : z.oneCell' = true)
    (B : Nat) (v : Value) (xs : List Value) (hs : a.eval s = v) (hown : Ow e B w v xs) (kx : IntKind) (M : Int) (m : Nat) (hx : a.eval x = .int kx M) (hM : M = m)
    (hb0 : 0 < bytes) (hbytes : (xs.length + m) * bytes ≤ 140737488355328) (hB : B ≤ w.heap.size)
    (h : ∀ v' w', Ow e B w' v' (xs ++ List.replicate m z) → Upd v.ownBlock.toList w w' → wpList P ops Q rest (a.put o.dst v') w') : wpList P ops Q (o :: rest) a w := by
  obtain ⟨i, hi, hz0, hz1, hz2⟩ := info_parts hinfo
  refine wpList_plain hgd fun K hK => ?_
  subst hM
  obtain ⟨v', w', hr, h2, h3⟩ := run_app_zeros (P := P) (w := w) t ti o.type e i z bytes ht k hti hi hz0 hz1 hz2 (by rw [hz]; rfl) hb0 B v xs hown kx m (by
    rw [hz]
    refine List.ext_getElem (by simp [size_zeroCells]) ?_
    intro j h1 h2
    simp [Builtin.zeroCells, Nat.mod_one]) hone hbytes hB
  unfold Oper.wp execOp
  simp only [ho, resolve, invoke, builtin, Sem.run_bind, Sem.run_pure, Result.andThen_ok, List.map_toArray, List.map_cons, List.map_nil, hs, hx, hr]
  exact hK _ _ (h v' w' h2 (Upd.ofGrown h3))

/-! ### bytes and strings; a slice against nil -/
theorem eql_nil {P : Program} (w : World) (t e : TypeId) (a : Option Addr) (l c : Nat) (h : P.underlying t = some (.slice e)) : (binOp .eql t (.slice a l c) (.slice none 0 0)).run P w = .ok (.bool a.isNone) w := by
  simp only [binOp]
  simp [run_equal_slice_nil w t e a l c h]
theorem strOfNums_bytes (l : List UInt8) : strOfNums (l.map fun b => ((b.toNat : Nat) : Int)) = ⟨l.toArray⟩ := by
  simp [strOfNums, Function.comp_def]
theorem convert_str {P : Program} {M : List Nat} {w : World} {v : Value} {l : List UInt8} (hv : Bs M w v l) (src e dst : TypeId) (hs : P.underlying src = some (.slice e)) (he : P.underlying e = some (.int .u8)) (hd : P.underlying dst = some .string) :
    (convert src dst v).run P w = .ok (.string ⟨l.toArray⟩) w := by
  rcases hv.cases with ⟨rfl, rfl⟩ | ⟨b, off, c, rfl, hlc, hc, hM, hb, hcell⟩
  · exact run_convert_bytes_nil w src e hs he 0 0 dst hd
  · rw [run_convert_bytes_arg w src e hs he b off l.length c (l.map fun b => ((b.toNat : Nat) : Int)) (by simp) ?_ dst hd, strOfNums_bytes]
    intro i hi
    rw [hcell i l[i] (by simp)]
    simp [List.getD, hi]
theorem str_eq (l l' : List UInt8) : ((⟨l.toArray⟩ : ByteArray) == ⟨l'.toArray⟩) = decide (l = l') := by
  show (l.toArray == l'.toArray) = decide (l = l')
  rw [Bool.eq_iff_iff, beq_iff_eq, decide_eq_true_iff]
  constructor
  · intro h
    have := congrArg Array.toList h
    simpa using this
  · rintro rfl; rfl

/-- append(own, slice) inside a region that draws its order; something is appended. -/
theorem step_app {P : Program} {w : World} {ops : Array Oper} {o : Oper} {a : Act} {K : Act → World → Prop} {Q : Exit → Act → World → Prop} {E : Prop} (hgd : o.guard = none) (s x : Operand) (t : TypeId)
    (ho : o.op = .call { callee := .builtin .append, args := #[s, x], argTypes := #[t, t] })
    (e : TypeId) (z : Value) (bytes : Nat) (ht : P.underlying t = some (.slice e)) (hinfo : (P.info? e).map (fun i => (i.zero, i.size, i.bytes)) = some (some z, 1, bytes)) (hz : z.cells.size = 1)
    (B : Nat) (v : Value) (xs : List Value) (hs : a.eval s = v) (hown : Ow e B w v xs) (M : List Nat) (y : Value) (ys : List Value) (hx : a.eval x = y) (hy : Rd M w y ys) (hne : ys ≠ []) (hcell : ∀ u ∈ ys, u.oneCell' = true)
    (hb0 : 0 < bytes) (hbytes : (xs.length + ys.length) * bytes ≤ 140737488355328) (hB : B ≤ w.heap.size)
    (h : ∀ g cap w', Ow e B w' (.slice (some ⟨g, 0, none⟩) (xs.length + ys.length) cap) (xs ++ ys) → Upd v.ownBlock.toList w w' → (v.ownBlock = some g ∨ w.heap.size ≤ g) → g < w'.heap.size → K (a.put o.dst (.slice (some ⟨g, 0, none⟩) (xs.length + ys.length) cap)) w') :
    if Region.wanted o (yielded ops a.tmps) = true then Oper.wp P o a w K Q else E := by
  obtain ⟨i, hi, hz0, hz1, hz2⟩ := info_parts hinfo
  have hle : xs.length + ys.length ≤ 140737488355328 := Nat.le_trans (Nat.le_mul_of_pos_right _ hb0) hbytes
  rcases hy with ⟨rfl, rfl⟩ | ⟨b, off, c, rfl, h1, h2, h3, h4, h5⟩
  · exact absurd rfl hne
  · refine step_append_lies w hgd s x t ho B e i z 1 bytes ht hi hz0 hz1 hz2 hz (by decide) v xs.length xs hs hown ⟨b, off, none⟩ ys.length c ys hx (by simp) (fun j u hj => by rw [Addr.add_lit]; exact h5 j u hj) hcell (List.length_pos_iff.2 hne) (by rw [maxLen_is]; omega) hbytes hB _ rfl ?_
    intro g cap w' h1 h2 h3 h4
    exact h g cap w' (by simpa [Ow] using h1) (Upd.ofGrown h2) (h3.imp id (fun e => by omega)) h4
/-- A slice that a composite literal of one element has made. -/
theorem Rd.one {w : World} {v : Value} {t : TypeId} {b c : Nat} (h : w.heap[b]? = some (.cells #[v] t (0, 0))) (hc : 1 ≤ c) (hc2 : c ≤ maxLen) : Rd [] w (.slice (some ⟨b, 0, none⟩) 1 c) [v] :=
  .inr ⟨b, 0, c, rfl, hc, hc2, by simp, lt_of_block h, fun j x hj => by
    obtain ⟨rfl, rfl⟩ : j = 0 ∧ v = x := by
      cases j with
      | zero => exact ⟨rfl, by simpa using hj⟩
      | succ j => simp at hj
    exact cell_of h rfl⟩

/-! ### parts of bytes -/
theorem Bs.take {M : List Nat} {w : World} {l : List UInt8} {b off n c : Nat} (h : Bs M w (.slice (some ⟨b, off, none⟩) n c) l) (k : Nat) (hk : k ≤ n) : Bs M w (.slice (some ⟨b, off, none⟩) k c) (l.take k) := by
  rcases h.cases with ⟨h1, _⟩ | ⟨b', off', c', h1, h2, h3, h4, h5, h6⟩
  · cases h1
  · simp only [Value.slice.injEq, Option.some.injEq, Addr.mk.injEq] at h1
    obtain ⟨⟨rfl, rfl, _⟩, rfl, rfl⟩ := h1
    have := Bs.mk (M := M) (w := w) (l := l.take k) (b := b) (off := off) (c := c) (by simp; omega) h3 h4 h5 (fun j x hj => h6 j x (by
      rw [List.getElem?_take] at hj
      split at hj
      · exact hj
      · cases hj))
    rwa [List.length_take, Nat.min_eq_left hk] at this
theorem Bs.drop {M : List Nat} {w : World} {l : List UInt8} {b off n c : Nat} (h : Bs M w (.slice (some ⟨b, off, none⟩) n c) l) (k : Nat) (hk : k ≤ n) : Bs M w (.slice (some ⟨b, off + k, none⟩) (n - k) (c - k)) (l.drop k) := by
  rcases h.cases with ⟨h1, _⟩ | ⟨b', off', c', h1, h2, h3, h4, h5, h6⟩
  · cases h1
  · simp only [Value.slice.injEq, Option.some.injEq, Addr.mk.injEq] at h1
    obtain ⟨⟨rfl, rfl, _⟩, rfl, rfl⟩ := h1
    have := Bs.mk (M := M) (w := w) (l := l.drop k) (b := b) (off := off + k) (c := c - k) (by simp; omega) (by omega) h4 h5 (fun j x hj => by
      rw [List.getElem?_drop] at hj
      rw [Nat.add_assoc]
      exact h6 (k + j) x hj)
    rwa [List.length_drop] at this
theorem Bs.empty {M : List Nat} {w : World} {b off c : Nat} (h4 : b ∉ M) (h5 : b < w.heap.size) (hc : c ≤ maxLen) : Bs M w (.slice (some ⟨b, off, none⟩) 0 c) [] :=
  Bs.mk (l := []) (by simp) hc h4 h5 (fun j x hj => by simp at hj)
theorem Bs.some {M : List Nat} {w : World} {v : Value} {l : List UInt8} (h : Bs M w v l) (hne : l ≠ []) : ∃ b off c, v = .slice (some ⟨b, off, none⟩) l.length c ∧ l.length ≤ c ∧ c ≤ maxLen ∧ b ∉ M ∧ b < w.heap.size := by
  rcases h.cases with ⟨_, h1⟩ | ⟨b, off, c, h1, h2, h3, h4, h5, h6⟩
  · exact absurd h1 hne
  · exact ⟨b, off, c, h1, h2, h3, h4, h5⟩

/-- append(own, slice) inside a region that draws its order, something or nothing being appended. -/
theorem step_appA {P : Program} {w : World} {ops : Array Oper} {o : Oper} {a : Act} {K : Act → World → Prop} {Q : Exit → Act → World → Prop} {E : Prop} (hgd : o.guard = none) (s x : Operand) (t : TypeId)
    (ho : o.op = .call { callee := .builtin .append, args := #[s, x], argTypes := #[t, t] })
    (e : TypeId) (z : Value) (bytes : Nat) (ht : P.underlying t = some (.slice e)) (hinfo : (P.info? e).map (fun i => (i.zero, i.size, i.bytes)) = some (some z, 1, bytes)) (hz : z.cells.size = 1)
    (B : Nat) (v : Value) (xs : List Value) (hs : a.eval s = v) (hown : Ow e B w v xs) (M : List Nat) (y : Value) (ys : List Value) (hx : a.eval x = y) (hy : Rd M w y ys) (hcell : ∀ u ∈ ys, u.oneCell' = true)
    (hb0 : 0 < bytes) (hbytes : (xs.length + ys.length) * bytes ≤ 140737488355328) (hB : B ≤ w.heap.size)
    (h : ∀ A cap w', Ow e B w' (.slice A (xs.length + ys.length) cap) (xs ++ ys) → Upd v.ownBlock.toList w w' → K (a.put o.dst (.slice A (xs.length + ys.length) cap)) w') :
    if Region.wanted o (yielded ops a.tmps) = true then Oper.wp P o a w K Q else E := by
  have hw : Region.wanted o (yielded ops a.tmps) = true := by simp [Region.wanted, hgd]
  rw [if_pos hw]
  have h' : ∀ v' w', Ow e B w' v' (xs ++ ys) → Upd v.ownBlock.toList w w' → K (a.put o.dst v') w' := by
    intro v' w' h1 h2
    rcases h1.shape with ⟨rfl, h0⟩ | ⟨g, cap, rfl, _⟩
    · have hl : xs.length + ys.length = 0 := by have := congrArg List.length h0; simpa using this
      have := h none 0 w' (by rw [hl]; exact h1) h2
      rwa [hl] at this
    · rw [List.length_append] at h1 ⊢
      exact h _ _ w' h1 h2
  obtain ⟨i, hi, hz0, hz1, hz2⟩ := info_parts hinfo
  have hle : xs.length + ys.length ≤ 140737488355328 := Nat.le_trans (Nat.le_mul_of_pos_right _ hb0) hbytes
  rcases hy with ⟨rfl, rfl⟩ | ⟨b, off, c, rfl, h1, h2, h3, h4, h5⟩
  · have hrun := run_append_owned_none (P := P) (w := w) B t o.type e i 1 ht hi v xs.length xs hown
    unfold Oper.wp
    simp [execOp, ho, resolve, invoke, builtin, hs, hx, hrun, Result.andThen]
    exact h' v w (by simpa using hown) (Upd.refl _ _)
  · refine wp_append_own w s x t ho B e i z 1 bytes ht hi hz0 hz1 hz2 hz (by decide) v xs.length xs hs hown ⟨b, off, none⟩ ys.length c ys hx (by simp) (fun j u hj => by rw [Addr.add_lit]; exact h5 j u hj) hcell (by rw [maxLen_is]; omega) hbytes hB ?_
    intro v' w' h1 h2 h3
    exact h' v' w' (by simpa [Ow] using h1) (Upd.ofGrown h2)
end Go.Proofs.YtpcndlipdfcnfaaDoor
