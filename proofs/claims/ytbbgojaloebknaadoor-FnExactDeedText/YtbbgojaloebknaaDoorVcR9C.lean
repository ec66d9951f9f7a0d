/- The card of FnExactDeedText. -/
import Derived.Test.YtbbgojaloebknaaDoorVcR9
namespace Go.Proofs.YtbbgojaloebknaaDoor
open Go
theorem FnExactDeedText_proved : Rows.FnExactDeedTextCardSaid :=
  Claim7.holds_tied_plain_at .later [] [.data, .data, .data] true Rows.fnExactDeedTextCard.stood.harness false
    Go.Proofs.YtbbgojaloebknaaDoor.Vc.FnExactDeedText_holds (fun _ h => by cases h) (by kernel_rfl) (fun _ h => by cases h) fnExactDeedText_row_tie rfl ⟨rfl, rfl⟩ (by kernel_rfl) rfl
    (fun f fn hf hfn => by
      obtain rfl : f = 3 := Option.some.inj ((show Tryd.prog.funcNamed Rows.fnExactDeedTextRow.func = some 3 by kernel_rfl).symm.trans hf) |>.symm
      obtain rfl : fn = Tryd.f3 := (Option.some.inj (Tryd.func3.symm.trans hfn)).symm
      exact ⟨by kernel_rfl, fun j t ht => by
        rw [Tryd.params3] at ht
        have hk : ∀ t ∈ #[23].toList, Tryd.prog.wantsStandIn t = false := by
          intro t h
          obtain rfl := List.mem_singleton.1 h
          kernel_rfl
        exact hk t (Array.mem_toList_iff.2 (Array.mem_of_getElem? ht))⟩)
    (by kernel_rfl)
end Go.Proofs.YtbbgojaloebknaaDoor
