/- What the functions of octet, digest's Crc and the library's small functions on bytes compute. -/
import Derived.Test.YtpcndlipdfcnfaaDoorBase
import Derived.Test.YtpcndlipdfcnfaaDoorProg
import Derived.KernelRfl
namespace Go.Proofs.YtpcndlipdfcnfaaDoor
open Go Go.RowKit

theorem infoU8 : (Tryd.prog.info? 5).map (fun i => (i.zero, i.size, i.bytes)) = some (some (.int .u8 0), 1, 1) := by kernel_rfl
theorem undBs : Tryd.prog.underlying 26 = some (.slice 5) := by kernel_rfl

/-- Bytes in a row of the call's own. -/
def OwB (B : Nat) (w : World) (v : Value) (l : List UInt8) : Prop := Ow 5 B w v (l.map u8v)
theorem OwB.bs {B : Nat} {w : World} {v : Value} {l : List UInt8} (h : OwB B w v l) (M : List Nat) (hM : ∀ x ∈ M, x < B) : Bs M w v l := Ow.rd h M hM
theorem OwB.isSlice {B : Nat} {w : World} {v : Value} {l : List UInt8} (h : OwB B w v l) : ∃ A c, v = .slice A l.length c := by
  rcases Ow.shape h with ⟨rfl, h1⟩ | ⟨g, c, rfl, _⟩
  · have : l = [] := by simpa using h1
    subst this
    exact ⟨none, 0, rfl⟩
  · exact ⟨some ⟨g, 0, none⟩, c, by simp⟩
theorem Bs.isSlice {M : List Nat} {w : World} {v : Value} {l : List UInt8} (h : Bs M w v l) : ∃ A c, v = .slice A l.length c := by
  rcases h.cases with ⟨rfl, rfl⟩ | ⟨b, off, c, rfl, _⟩
  · exact ⟨none, 0, rfl⟩
  · exact ⟨_, c, rfl⟩
theorem u8v_one : ∀ l : List UInt8, ∀ u ∈ l.map u8v, u.oneCell' = true := by
  intro l u hu
  obtain ⟨b, _, rfl⟩ := List.mem_map.1 hu
  rfl

/-! ### numbers in so many bytes -/
def be (l : List UInt8) : Nat := l.foldl (fun n c => n * 256 + c.toNat) 0
theorem be_snoc (l : List UInt8) (c : UInt8) : be (l ++ [c]) = be l * 256 + c.toNat := by simp [be]
theorem be_go (l : List UInt8) : ∀ a : Nat, l.foldl (fun n (c : UInt8) => n * 256 + c.toNat) a < (a + 1) * 256 ^ l.length := by
  induction l with
  | nil => intro a; simp
  | cons c l ih =>
    intro a
    have h := ih (a * 256 + c.toNat)
    have hc := c.toNat_lt
    simp only [List.foldl_cons, List.length_cons, Nat.pow_succ]
    have h2 : (a * 256 + c.toNat + 1) * 256 ^ l.length ≤ ((a + 1) * 256) * 256 ^ l.length := Nat.mul_le_mul_right _ (by omega)
    rw [show (a + 1) * (256 ^ l.length * 256) = ((a + 1) * 256) * 256 ^ l.length from by rw [Nat.mul_comm (256 ^ l.length) 256, Nat.mul_assoc]]
    omega
theorem be_lt (l : List UInt8) : be l < 256 ^ l.length := by
  have := be_go l 0
  simpa [be] using this
def beB (width n : Nat) : List UInt8 := (List.range width).map fun i => UInt8.ofNat (n / 256 ^ (width - 1 - i))
@[simp] theorem beB_length (width n : Nat) : (beB width n).length = width := by simp [beB]

set_option maxRecDepth 100000 in
set_option maxHeartbeats 400000 in
theorem number_any (n : Int) (w : World) :
    Calls Tryd.prog 71 #[.int .i64 n] w fun e w' => e = .returned (.bool (decide (0 ≤ n) && decide (n ≤ 9007199254740991))) ∧ w = w' := by
  by_cases h0 : 0 ≤ n <;> by_cases h1 : n ≤ 9007199254740991
  all_goals
    go_enter Tryd.func71, Tryd.ntmps71
    go_wp2
    go_ret
    exact ⟨by simp [h0, h1], rfl⟩

set_option maxRecDepth 100000 in
set_option maxHeartbeats 400000 in
theorem number_yes (n : Int) (w : World) (h0 : 0 ≤ n) (h1 : n ≤ 9007199254740991) :
    Calls Tryd.prog 71 #[.int .i64 n] w fun e w' => e = .returned (.bool true) ∧ w = w' := by
  refine (number_any n w).mono ?_
  rintro e w' ⟨rfl, rfl⟩
  simp [h0, h1]

theorem beB_cells (width n k : Nat) (hk : k < width) :
    ((List.replicate (width - k) (0 : UInt8) ++ (beB width n).drop (width - k)).map u8v).toArray.setIfInBounds (width - k - 1) (u8v (UInt8.ofNat (n / 256 ^ k))) = ((List.replicate (width - (k + 1)) (0 : UInt8) ++ (beB width n).drop (width - (k + 1))).map u8v).toArray := by
  apply Array.ext'
  simp only [List.setIfInBounds_toArray, List.toList_toArray]
  refine List.ext_getElem (by simp only [List.length_set, List.length_map, List.length_append, List.length_replicate, List.length_drop, beB_length]; omega) ?_
  intro j h1 h2
  rw [List.getElem_set]
  simp only [List.getElem_map, List.getElem_append, List.length_replicate, List.getElem_replicate, List.getElem_drop]
  by_cases hj : width - k - 1 = j
  · rw [if_pos hj]
    have : ¬ (j < width - (k + 1)) := by omega
    rw [dif_neg this]
    congr 1
    simp only [beB, List.getElem_map, List.getElem_range]
    congr 3
    omega
  · rw [if_neg hj]
    by_cases h3 : j < width - (k + 1)
    · rw [dif_pos h3, dif_pos (by omega)]
    · rw [dif_neg h3, dif_neg (by omega)]
      congr 2
      omega

theorem beB_start (width n : Nat) : (madeCells #[Value.int .u8 0] width).toList.toArray = ((List.replicate (width - 0) (0 : UInt8) ++ (beB width n).drop (width - 0)).map u8v).toArray := by
  rw [toList_madeCells_one, Nat.sub_zero, List.drop_of_length_le (by simp), List.append_nil, List.map_replicate]
  rfl
theorem beB_get (width n k j : Nat) (h : j + 1 + k = width) : ((List.replicate (width - k) (0 : UInt8) ++ (beB width n).drop (width - k)).map u8v).toArray[j]? = some (u8v 0) := by
  simp only [List.getElem?_toArray, List.getElem?_map]
  rw [List.getElem?_append_left (by simp; omega), List.getElem?_replicate, if_pos (by omega)]
  rfl
theorem u8v_mod (q : Nat) : Value.int .u8 ((q : Int) % 256) = u8v (UInt8.ofNat q) := by
  simp [u8v]

set_option maxRecDepth 100000 in
set_option maxHeartbeats 1000000 in
theorem fixed_ok (w : World) (n width : Nat) (h1 : 1 ≤ width) (h8 : width ≤ 8) (hn : n ≤ 9007199254740991) (hs : n < 256 ^ width) :
    Calls Tryd.prog 80 #[.int .i64 n, .int .i64 width] w fun e w' => e = .returned (.tuple #[.slice (some ⟨w.heap.size, 0, none⟩) width width, .int .i64 0]) ∧ OwB w.heap.size w' (.slice (some ⟨w.heap.size, 0, none⟩) width width) (beB width n) ∧ Upd [] w w' := by
  have hsh : n / 2 ^ (8 * width) = 0 := by
    apply Nat.div_eq_of_lt
    rw [show (8 * width) = (8 * width) from rfl, Nat.pow_mul]
    exact hs
  have hsh' : ((n : Int) / 2 ^ (8 * width)) ≤ 0 := by
    have : ((n : Int) / 2 ^ (8 * width)) = ((n / 2 ^ (8 * width) : Nat) : Int) := by simp
    rw [this, hsh]; exact Int.le_refl _
  have hn0 : (0 : Int) ≤ (n : Int) := by omega
  have hn1 : (n : Int) ≤ 9007199254740991 := by omega
  have HS := Sd.mk hs
  clear hs hsh
  obtain ⟨i, hi, hz0, hz1, hz2⟩ := info_parts infoU8
  go_enter Tryd.func80, Tryd.ntmps80
  go_wp2_with (first | (go_at_call 71; refine (number_yes _ _ hn0 hn1).mono ?_; rintro e w' ⟨rfl, rfl⟩) | (at_make; refine wpList_make_full _ rfl _ _ _ rfl w.heap.size _ i _ 1 undBs hi hz0 hz1 .i64 .i64 _ _ width rfl rfl rfl rfl (by rw [hz2]; omega) (by rw [maxLen_is]; omega) (Nat.le_refl _) ?_))
  all_goals
    intro w1 hown hgrow
    have HU := Sd.mk (Upd.ofGrown hgrow)
    have HB := Sd.mk (Ow.full hown).1
    have hsz := (lt_of_block HB.out)
    clear hown hgrow hsh' hi hz0 hz1 hz2
    go_wp2
    go_loopg [0, 7] width (fun g x y wr => ∃ k : Nat, k ≤ width ∧ x = .int .i64 ((n / 256 ^ k : Nat) : Int) ∧ ((∃ j : Nat, y = .int .i64 j ∧ j + 1 + k = width) ∨ (y = .int .i64 (-1) ∧ k = width)) ∧ Sd (g = width - k) ∧ Sd (wr.heap[w.heap.size]? = some (.cells ((List.replicate (width - k) (0 : UInt8) ++ (beB width n).drop (width - k)).map u8v).toArray 5 (0, 0))) ∧ Sd (Upd [] w wr))
    case atStart => exact ⟨0, by omega, by simp, .inl ⟨width - 1, by rw [Int.natCast_sub h1]; rfl, by omega⟩, ⟨by omega⟩, ⟨by rw [HB.out, beB_start width n]⟩, HU⟩
    case round =>
      obtain ⟨k, hk, rfl, hy, hg, hb, hu⟩ := hrel
      rcases hy with ⟨j, rfl, hj⟩ | ⟨rfl, hj⟩
      · have hc : wr.cell? ⟨w.heap.size, j, none⟩ = some (u8v 0) := cell_of hb.out (beB_get width n k j hj)
        have hf : wr.frozen? ⟨w.heap.size, j, none⟩ = false := free_of hb.out _
        have hp1 : (n / 256 ^ k : Nat) ≤ 9007199254740991 := Nat.le_trans (Nat.div_le_self _ _) hn
        obtain ⟨q, hq⟩ : ∃ q, q = n / 256 ^ k := ⟨_, rfl⟩
        rw [← hq] at hp1 ⊢
        have HQ := Sd.mk hq
        have HJ := Sd.mk hj
        have hj2 : j < width := by omega
        clear hq hj
        go_wp2
        have hj := HJ.out
        go_roundg (width - (k + 1))
        case measure => rw [hg.out]; omega
        case rel =>
          refine ⟨k + 1, by omega, ?_, ?_, ⟨rfl⟩, ⟨?_⟩, ⟨hu.out.setCell _ (.inr (Nat.le_refl _))⟩⟩
          · rw [HQ.out, Nat.pow_succ, ← Nat.div_div_eq_div_mul]; rfl
          · rcases Nat.eq_zero_or_pos j with rfl | h0
            · exact .inr ⟨rfl, by omega⟩
            · exact .inl ⟨j - 1, by rw [Int.natCast_sub h0]; rfl, by omega⟩
          · rw [heap_setCell_same _ hb.out, u8v_mod, HQ.out, show j = width - k - 1 by omega, beB_cells width n k (by omega)]
      · have HJ := Sd.mk hj
        clear hj
        go_wp2
        go_ret2
        refine ⟨rfl, ?_, hu.out⟩
        have hb' := hb.out
        rw [HJ.out, Nat.sub_self, List.replicate_zero, List.nil_append, List.drop_zero] at hb'
        have := Ow.ofBlock (B := w.heap.size) hb' (Nat.le_refl _) (by simp; rw [maxLen_is]; omega)
        simpa [OwB] using this
/-! ### TakeFixed -/
def tf (l : List UInt8) (at_ width : Nat) : Nat := be ((l.drop at_).take width)
def tfN (x : Nat) : Int := if x ≤ 9007199254740991 then (x : Int) else 0
def tfX (p : Int) (x : Nat) : Int := if x ≤ 9007199254740991 then p else 0
def tfE (x : Nat) : Int := if x ≤ 9007199254740991 then 0 else 6
theorem or_byte (m : Nat) (x : UInt8) (h : m < 72057594037927936) : bits .or .u64 (IntKind.u64.wrap ((m : Int) * 256)) (IntKind.u64.wrap ((x.toNat : Nat) : Int)) = ((m * 256 + x.toNat : Nat) : Int) := by
  have hx := x.toNat_lt
  have h1 : IntKind.u64.wrap ((m : Int) * 256) = ((m * 256 : Nat) : Int) := by
    rw [IntKind.wrap_u64]; omega
  have h2 : IntKind.u64.wrap ((x.toNat : Nat) : Int) = ((x.toNat : Nat) : Int) := by
    rw [IntKind.wrap_u64]; omega
  rw [h1, h2, bits_or_u64_nat _ _ (by omega) (by omega)]
  congr 1
  have := Nat.shiftLeft_add_eq_or_of_lt (i := 8) (b := x.toNat) (by omega) m
  rw [Nat.shiftLeft_eq] at this
  simpa using this.symm
theorem tf_snoc (l : List UInt8) (at_ i : Nat) (h : at_ + i < l.length) : tf l at_ (i + 1) = tf l at_ i * 256 + l[at_ + i].toNat := by
  unfold tf
  rw [List.take_succ_eq_append_getElem (by simp; omega), be_snoc]
  simp
theorem tf_lt (l : List UInt8) (at_ i j : Nat) (h : i ≤ j) : tf l at_ i < 256 ^ j := by
  have h1 := be_lt ((l.drop at_).take i)
  exact Nat.lt_of_lt_of_le h1 (Nat.pow_le_pow_right (by decide) (Nat.le_trans (List.length_take_le _ _) h))

set_option maxRecDepth 100000 in
set_option maxHeartbeats 400000 in
theorem takeFixed_ok {M : List Nat} {w : World} {v : Value} {l : List UInt8} (hv : Bs M w v l) (at_ width : Nat) (h1 : 1 ≤ width) (h8 : width ≤ 8) (hat : at_ + width ≤ l.length) :
    Calls Tryd.prog 70 #[v, .int .i64 at_, .int .i64 width] w fun e w' => e = .returned (.tuple #[.int .i64 (tfN (tf l at_ width)), .int .i64 (tfX ((at_ : Int) + width) (tf l at_ width)), .int .i64 (tfE (tf l at_ width))]) ∧ w = w' := by
  rcases hv.cases with ⟨rfl, rfl⟩ | ⟨b, off, c, rfl, hlc, hc, hM, hb, hcell⟩
  · simp at hat; omega
  rw [maxLen_is] at hc
  have HC := Sd.mk hcell
  clear hcell hv hM
  go_enter Tryd.func70, Tryd.ntmps70
  go_wp2
  go_loopg [9, 43] width (fun g n k w' => ∃ (i m : Nat), i ≤ width ∧ k = .int .i64 i ∧ n = .int .u64 m ∧ w' = w ∧ Sd (g = width - i) ∧ Sd (m = tf l at_ i))
  case atStart => exact ⟨0, 0, by omega, rfl, rfl, rfl, ⟨rfl⟩, ⟨rfl⟩⟩
  case round =>
    obtain ⟨i, m, hi, rfl, rfl, rfl, hg, hm⟩ := hrel
    by_cases hlt : i < width
    · have hx : l[at_ + i]? = some l[at_ + i] := by simp
      have hcell := HC.out _ _ hx
      clear hx
      rw [← Nat.add_assoc] at hcell
      go_wp2
      go_roundg (width - (i + 1))
      case measure => rw [hg.out]; omega
      case rel =>
        refine ⟨i + 1, m * 256 + l[at_ + i].toNat, by omega, by go_num, ?_, rfl, ⟨rfl⟩, ⟨by rw [tf_snoc _ _ _ (by omega), hm.out]⟩⟩
        rw [or_byte]
        rw [hm.out]
        exact tf_lt l at_ i 7 (by omega)
    · obtain rfl : i = width := by omega
      have hmm := hm.out
      have hmu : m < 18446744073709551616 := by rw [hmm]; exact tf_lt l at_ i 8 (by omega)
      by_cases hle : m ≤ 9007199254740991
      · have hle' : (m : Int) ≤ 9007199254740991 := by omega
        clear hmm
        go_wp2
        go_ret3
        refine ⟨?_, rfl⟩
        rw [← hm.out]
        simp [tfN, tfX, tfE, hle]
      · have hle' : 9007199254740991 < (m : Int) := by omega
        clear hmm
        go_wp2
        go_ret3
        refine ⟨?_, rfl⟩
        rw [← hm.out]
        simp [tfN, tfX, tfE, hle]

/-! ### Crc -/
def crcBit (m : Int) : Int := bits BinOp.xor IntKind.u32 (m / 2) (bits BinOp.and IntKind.u32 2197175160 (-bits BinOp.and IntKind.u32 m 1 % 4294967296))
def crcByte (m : Int) (c : UInt8) : Int := Nat.repeat crcBit 8 (bits BinOp.xor IntKind.u32 m (((c.toNat : Nat) : Int) % 4294967296))
def crcRun (s : Int) (l : List UInt8) : Int := l.foldl crcByte (bits BinOp.xor IntKind.u32 IntKind.u32.max s)
def crcMore (s : Int) (l : List UInt8) : Int := bits BinOp.xor IntKind.u32 IntKind.u32.max (crcRun s l)
theorem crcMore_range (s : Int) (l : List UInt8) : 0 ≤ crcMore s l ∧ crcMore s l ≤ 4294967295 := ⟨bits_lo_u32 _ _ _, bits_hi_u32 _ _ _⟩
theorem crcRun_snoc (s : Int) (l : List UInt8) (i : Nat) (h : i < l.length) : crcRun s (l.take (i + 1)) = crcByte (crcRun s (l.take i)) l[i] := by
  unfold crcRun
  rw [List.take_succ_eq_append_getElem h, List.foldl_append]
  rfl

set_option maxRecDepth 100000 in
set_option maxHeartbeats 400000 in
theorem crcMore_any {M : List Nat} {w : World} {v : Value} {l : List UInt8} (hv : Bs M w v l) (s : Int) :
    Calls Tryd.prog 81 #[.int .u32 s, v] w fun e w' => e = .returned (.int .u32 (crcMore s l)) ∧ w = w' := by
  rcases hv.cases with ⟨rfl, rfl⟩ | ⟨b, off, c, rfl, hlc, hc, hM, hb, hcell⟩
  · go_enter Tryd.func81, Tryd.ntmps81
    go_wp2
    go_loopg [5, 13] 0 (fun g n k w' => k = .int .i64 0 ∧ n = .int .u32 (bits BinOp.xor IntKind.u32 IntKind.u32.max s) ∧ w' = w)
    case atStart => exact ⟨rfl, rfl, rfl⟩
    case round =>
      obtain ⟨rfl, rfl, rfl⟩ := hrel
      go_wp2
      go_ret
      exact ⟨rfl, rfl⟩
  rw [maxLen_is] at hc
  have HC := Sd.mk hcell
  clear hcell hv hM
  go_enter Tryd.func81, Tryd.ntmps81
  go_wp2
  go_loopg [5, 13] l.length (fun g n k w' => ∃ (i : Nat) (m : Int), i ≤ l.length ∧ k = .int .i64 i ∧ n = .int .u32 m ∧ 0 ≤ m ∧ m ≤ 4294967295 ∧ w' = w ∧ Sd (g = l.length - i) ∧ Sd (m = crcRun s (l.take i)))
  case atStart => exact ⟨0, _, by omega, rfl, rfl, bits_lo_u32 _ _ _, bits_hi_u32 _ _ _, rfl, ⟨rfl⟩, ⟨rfl⟩⟩
  case round =>
    obtain ⟨i, m, hi, rfl, rfl, hm0, hm, rfl, hg, hmm⟩ := hrel
    by_cases hlt : i < l.length
    · have hx : l[i]? = some l[i] := by simp
      have hcell := HC.out _ _ hx
      clear hx
      go_wp2
      go_loopg [5, 21] 8 (fun g n k w' => ∃ (j : Nat) (m2 : Int), j ≤ 8 ∧ k = .int .i64 j ∧ n = .int .u32 m2 ∧ 0 ≤ m2 ∧ m2 ≤ 4294967295 ∧ w' = wr ∧ Sd (g = 8 - j) ∧ Sd (m2 = Nat.repeat crcBit j (bits BinOp.xor IntKind.u32 m (((l[i].toNat : Nat) : Int) % 4294967296))))
      case atStart => exact ⟨0, _, by omega, rfl, rfl, bits_lo_u32 _ _ _, bits_hi_u32 _ _ _, rfl, ⟨rfl⟩, ⟨rfl⟩⟩
      case round =>
        obtain ⟨j, m2, hj, rfl, rfl, hm20, hm2, rfl, hg2, hmm2⟩ := hrel
        by_cases hlt2 : j < 8
        · go_wp2
          go_roundg (8 - (j + 1))
          case measure => rw [hg2.out]; omega
          case rel => exact ⟨j + 1, _, by omega, by go_num, rfl, bits_lo_u32 _ _ _, bits_hi_u32 _ _ _, rfl, ⟨rfl⟩, ⟨by rw [hmm2.out]; rfl⟩⟩
        · obtain rfl : j = 8 := by omega
          go_wp2
          go_roundg (l.length - (i + 1))
          case measure => rw [hg.out]; omega
          case rel => exact ⟨i + 1, m2, by omega, by go_num, rfl, hm20, hm2, rfl, ⟨rfl⟩, ⟨by rw [crcRun_snoc _ _ _ hlt, ← hmm.out, hmm2.out]; rfl⟩⟩
    · obtain rfl : i = l.length := by omega
      go_wp2
      go_ret
      refine ⟨?_, rfl⟩
      have h := hmm.out
      rw [List.take_length] at h
      rw [crcMore, ← h]
      rfl

def crc (l : List UInt8) : Int := crcMore 0 l
theorem crc_lo (l : List UInt8) : 0 ≤ crc l := (crcMore_range 0 l).1
theorem crc_hi (l : List UInt8) : crc l ≤ 4294967295 := (crcMore_range 0 l).2
set_option maxHeartbeats 400000 in
theorem crc_any {M : List Nat} {w : World} {v : Value} {l : List UInt8} (hv : Bs M w v l) :
    Calls Tryd.prog 69 #[v] w fun e w' => e = .returned (.int .u32 (crc l)) ∧ w = w' := by
  go_enter Tryd.func69, Tryd.ntmps69
  go_wp2_with (go_at_call 81; refine (crcMore_any hv 0).mono ?_; rintro e w' ⟨rfl, rfl⟩)
  go_ret
  exact ⟨rfl, rfl⟩
end Go.Proofs.YtpcndlipdfcnfaaDoor
