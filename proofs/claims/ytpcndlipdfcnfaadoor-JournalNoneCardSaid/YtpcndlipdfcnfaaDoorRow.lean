/- JournalNone: the row. -/
import Derived.Test.YtpcndlipdfcnfaaDoorLaw
import Derived.Test.YtpcndlipdfcnfaaDoorRows
import Derived.ProofKit
import Derived.LaidMore
import Derived.ChangeSame
import Derived.ChangeVars
import Derived.LaidHandle
import Derived.OpenShut
import Derived.Stop.Joined
import Derived.WideKeyArgs
namespace Go.Proofs.YtpcndlipdfcnfaaDoor
open Go Go.RowKit Go.ChangeShapes Go.WideShapes

theorem keptBut_of {w w' : World} (u : Upd [] w w') (may : MemPlace → Prop) : w.keptBut w' may :=
  ⟨u.os, u.output, fun i hi => by rw [u.block i hi (by simp)]; exact (World.keptBut_refl w may).2.2 i hi⟩
theorem sameAt_of {w w' : World} (u : Upd [] w w') (p : MemPlace) (hp : p.block < w.heap.size) : w.sameAt w' p := by
  cases p with
  | cell b off => show w'.cell? _ = w.cell? _; unfold World.cell?; rw [u.block b hp (by simp)]
  | map b => exact u.block b hp (by simp)
theorem own : ownKnob Tryd.prog.godebug = none := by kernel_rfl
theorem undWhere : ∃ fs, Tryd.prog.underlying 25 = some (.struct fs) := by
  obtain ⟨d, h1, h2⟩ := agg_of (P := Tryd.prog) (t := 25) (by kernel_rfl)
  cases d with
  | struct fs => exact ⟨fs, h1⟩
  | array n e =>
    have : (match Tryd.prog.underlying 25 with | some (.struct _) => true | _ => false) = true := by kernel_rfl
    rw [h1] at this
    cases this
  | _ => cases h2
theorem undBool : Tryd.prog.underlying 4 = some .bool := by kernel_rfl
/-- The two tables, run by run. -/
def firstRuns : List Int := List.replicate 128 240 ++ List.replicate 66 241 ++ List.replicate 30 2 ++ [19] ++ List.replicate 12 3 ++ [35] ++ List.replicate 2 3 ++ [52] ++ List.replicate 3 4 ++ [68] ++ List.replicate 11 241
def acceptRuns : List Int := [128, 191, 160, 191, 128, 159, 144, 191, 128, 143] ++ List.replicate 22 0
/-- The witness' world: the settled one, the two tables' blocks filled. -/
noncomputable def laidWorld (os : Os) : World :=
  let w0 := World.holding Tryd.prog os ⟨#[], #[], []⟩
  let put (h : Array Obj) (g : Nat) (cs : Array Value) : Array Obj := h.modify g fun
    | .cells _ t frozen => .cells cs t frozen
    | o => o
  let h1 := put w0.heap 0 (firstRuns.map fun z => Value.int .u8 z).toArray
  let h2 := put h1 1 (acceptRuns.map fun z => Value.int .u8 z).toArray
  { w0 with heap := h2 }
theorem door_met (os : Os) (args : Array Value) : laidMetH Tryd.prog Rows.journalNoneRow.laid ((laidWorld os).forCall (fun _ _ => 0) ⟨#[], args, []⟩).memory :=
  laidMetH_of_parts3 (fuel := 8) (laidMet_of_run' 8 (by kernel_rfl) (by kernel_rfl)) (by kernel_rfl) (by kernel_rfl)

theorem laysOut : laidOutB Tryd.prog = true := by kernel_rfl
theorem readWhere : Tryd.prog.readableRec 25 = true := by kernel_rfl
theorem readBytes : Tryd.prog.readableRec 26 = true := by kernel_rfl
theorem rowWhere : 25 < Tryd.prog.types.size := of_decide_eq_true (by kernel_rfl)
theorem rowBytes : 26 < Tryd.prog.types.size := of_decide_eq_true (by kernel_rfl)

/-- What was read reads so again: no block that was there is turned. -/
theorem post_is {H : Type} (enc : TypeId × Value → H) {W W' : World} {v0 v1 : Value} {ds gs : List (DataW H)} {before : List MemPlace}
    (hW : DataW.Whole enc Tryd.prog [25, 26] [] false W [v0, v1] ds gs before) (hu : Upd [] W W') :
    ∃ d0 d1 pa, ds = [d0, d1] ∧ gs = [] ∧ DataW.TrodAll enc Tryd.prog W' 0 (fun b => decide (b < W.heap.size)) true [25, 26] [v0, v1] [d0, d1] pa := by
  obtain ⟨p, q, hA, hV, rfl, hfz, hnd⟩ := hW
  have hlt := DataW.TrodAll.lt hA
  obtain ⟨rfl, rfl⟩ := trodVars_none hV
  obtain ⟨x0, x1, d0, d1, p0, p1, e, rfl, rfl, h0, h1⟩ := trodAll_two (args := #[v0, v1]) hA
  obtain ⟨rfl, rfl⟩ : v0 = x0 ∧ v1 = x1 := by simpa using e
  refine ⟨d0, d1, p0 ++ p1, rfl, rfl, trodAll_mk2 (Go.WideElems.Trod_stays laysOut readWhere rowWhere h0 ?_ ?_) (Go.WideElems.Trod_stays laysOut readBytes rowBytes h1 ?_ ?_)⟩
  · exact fun p hp => sameAt_of hu p (hlt p (List.mem_append_left _ hp))
  · exact fun p hp => decide_eq_true (hlt p (List.mem_append_left _ hp))
  · exact fun p hp => sameAt_of hu p (hlt p (List.mem_append_right _ hp))
  · exact fun p hp => decide_eq_true (hlt p (List.mem_append_right _ hp))

set_option maxRecDepth 100000 in
theorem six_of {W : World} {base : Nat} {v : Value} (h : Value.okWide Tryd.prog W .any base 25 v) : ∃ x0 x1 x2 x3 x4 x5, v = .agg #[x0, x1, x2, x3, x4, x5] := by
  obtain ⟨fs, hfs⟩ := undWhere
  obtain ⟨cs, rfl, hcs⟩ := okWide_struct hfs h
  rw [show Tryd.prog.cellsOf 25 = 6 by kernel_rfl] at hcs
  obtain ⟨l⟩ := cs
  match l, hcs with
  | [x0, x1, x2, x3, x4, x5], _ => exact ⟨x0, x1, x2, x3, x4, x5, rfl⟩

set_option maxRecDepth 100000 in
set_option maxHeartbeats 1000000 in
theorem core {H : Type} (enc : TypeId × Value → H) (W : World) (base : Nat) (args : Array Value) (ds gs : List (DataW H)) (before : List MemPlace)
    (hval : ∀ (j : Nat) t v, Tryd.f3.params[j]? = some t → args[j]? = some v → Value.okWide Tryd.prog W .any base t v)
    (hW : DataW.Whole enc Tryd.prog Tryd.f3.params.toList Rows.journalNoneSpec.vars false W args.toList ds gs before) :
    Calls Tryd.prog 3 args W fun e W' => ∃ v, e = .returned v ∧ Rows.journalNoneSpec.post enc Tryd.prog Tryd.f3 false true false false W args v W' := by
  have hps : Tryd.f3.params = #[25, 26] := Tryd.params3
  have hpl : Tryd.f3.params.toList = [25, 26] := by rw [hps]
  have hW' := hW
  rw [hps] at hW hval
  have hA := hW
  obtain ⟨p, q, hA, -, -, -, -⟩ := hA
  obtain ⟨v0, v1, d0, d1, p0, p1, rfl, -, -, -, -⟩ := trodAll_two hA
  clear hA
  obtain ⟨x0, x1, x2, x3, x4, x5, rfl⟩ := six_of (hval 0 25 v0 rfl rfl)
  refine (none_is W x0 x1 x2 x3 x4 x5 v1).mono fun e W' ⟨he, hu⟩ => ?_
  subst he
  obtain ⟨e0, e1, pa, rfl, rfl, hP⟩ := post_is enc hW hu
  rw [← hpl] at hP
  exact ⟨.bool true, rfl, _, _, before, [], pa, [], hW', trodAll_mk1 (shut_bool undBool true), hP, rfl, keptBut_of hu _, fun h => by cases h⟩

set_option maxRecDepth 100000 in
theorem lifted (os : Os) (started : os.Started) (H : Type) (enc : TypeId × Value → H) :
    ReturnsInHanded {} Tryd.checked os 3 .any (fun w args => (Rows.journalNoneSpec.pre enc Tryd.prog Tryd.f3 [] false w args ∧ laidMetH Tryd.prog Rows.journalNoneRow.laid w) ∧ sizedMet enc Tryd.prog Tryd.f3 (OpenSpec.ofChange Rows.journalNoneSpec) false w args)
      (Rows.journalNoneSpec.post enc Tryd.prog Tryd.f3 false true false false) := by
  refine returnsInHanded_of_change_and (C := Tryd.checked) (X := fun w _ => laidMetH Tryd.prog Rows.journalNoneRow.laid w) (fun _ _ _ hh h => h.of_heap hh) own started (by kernel_rfl) Tryd.func3
    (ChangeSpec.witness_at (enc := enc) (C := Tryd.checked) (os := os) (X := fun w _ => laidMetH Tryd.prog Rows.journalNoneRow.laid w) false (laidWorld os) #[.agg #[.int .u8 0, .int .i64 0, .int .i64 0, .int .i64 0, .int .i64 0, .int .i64 0], .slice none 0 0] 8 rfl (by kernel_rfl) (by kernel_rfl) (by kernel_rfl) (by kernel_rfl) (by kernel_rfl) (door_met os _)) ?_
  exact fun W base args ds gs before hval hW _ _ _ _ => core enc W base args ds gs before hval hW

theorem journalNone_holds : Rows.JournalNoneSaid :=
  OpenClaim.holds_of_wide 3 Tryd.f3 rfl rfl rfl rfl rfl rfl rfl ⟨rfl, rfl, rfl, rfl, rfl⟩ rfl rfl rfl rfl rfl (by kernel_rfl) Tryd.func3 (by kernel_rfl)
    (of_decide_eq_true (by kernel_rfl)) (by unfold Func.isWrapper; first | (rw [if_pos (by decide +kernel)]; kernel_rfl) | (rw [if_neg (by decide +kernel)]; exact ⟨rfl, rfl⟩))
    (fun os started H enc _ => lifted os started H enc)
end Go.Proofs.YtpcndlipdfcnfaaDoor
