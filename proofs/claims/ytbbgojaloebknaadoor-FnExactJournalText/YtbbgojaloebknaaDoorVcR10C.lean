/- The card of FnExactJournalText. -/
import Derived.Test.YtbbgojaloebknaaDoorVcR10
namespace Go.Proofs.YtbbgojaloebknaaDoor
open Go
theorem FnExactJournalText_proved : Rows.FnExactJournalTextCardSaid :=
  Claim7.holds_tied_plain_at .later [] [.data, .data, .data] true Rows.fnExactJournalTextCard.stood.harness false
    Go.Proofs.YtbbgojaloebknaaDoor.Vc.FnExactJournalText_holds (fun _ h => by cases h) (by kernel_rfl) (fun _ h => by cases h) fnExactJournalText_row_tie rfl ⟨rfl, rfl⟩ (by kernel_rfl) rfl
    (fun f fn hf hfn => by
      obtain rfl : f = 4 := Option.some.inj ((show Tryd.prog.funcNamed Rows.fnExactJournalTextRow.func = some 4 by kernel_rfl).symm.trans hf) |>.symm
      obtain rfl : fn = Tryd.f4 := (Option.some.inj (Tryd.func4.symm.trans hfn)).symm
      exact ⟨by kernel_rfl, fun j t ht => by
        rw [Tryd.params4] at ht
        have hk : ∀ t ∈ #[29].toList, Tryd.prog.wantsStandIn t = false := by
          intro t h
          obtain rfl := List.mem_singleton.1 h
          kernel_rfl
        exact hk t (Array.mem_toList_iff.2 (Array.mem_of_getElem? ht))⟩)
    (by kernel_rfl)
end Go.Proofs.YtbbgojaloebknaaDoor
