/- JournalNone: for every place and record the call returns true, and both arguments read as they did: the tied card. Conditions: the two tables of unicode/utf8 that the card lists read as the program's text lays them. -/
import Derived.Test.YtpcndlipdfcnfaaDoorRow
import Derived.Test.YtpcndlipdfcnfaaDoorCards
import Derived.Test.YtpcndlipdfcnfaaDoorTie
import Derived.SevenTiedAt
namespace Go.Proofs.YtpcndlipdfcnfaaDoor
open Go

theorem journalNone_card_holds : Rows.JournalNoneCardSaid :=
  Claim7.holds_tied_plain_at .later [] [.data, .pinned] true Rows.journalNoneCard.stood.harness false
    journalNone_holds (fun _ h => by cases h) (by kernel_rfl) (fun _ h => by cases h) journalNone_row_tie rfl ⟨rfl, rfl⟩ (by kernel_rfl) rfl
    (fun f fn hf hfn => by
      obtain rfl : f = 3 := Option.some.inj ((show Tryd.prog.funcNamed "aumbry/aumbrylaw14.JournalNone" = some 3 by kernel_rfl).symm.trans hf) |>.symm
      obtain rfl : fn = Tryd.f3 := (Option.some.inj (Tryd.func3.symm.trans hfn)).symm
      exact ⟨by kernel_rfl, fun j t ht => by
        rw [Tryd.params3] at ht
        have hm : t ∈ [25, 26] := by simpa using Array.mem_of_getElem? ht
        have hall : ([25, 26].all fun u => !Tryd.prog.wantsStandIn u) = true := by kernel_rfl
        exact (show Tryd.prog.wantsStandIn t = false by simpa using List.all_eq_true.1 hall t hm)⟩)
    (by kernel_rfl)
#print axioms journalNone_card_holds
end Go.Proofs.YtpcndlipdfcnfaaDoor
