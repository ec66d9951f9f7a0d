/- FnDeskRun: for every input the law returns true; the tables that it reads are those of the program's text. -/
import Derived.Test.YtjefkdhecccfpaaDoorVc7
section
namespace Go.Proofs.YtjefkdhecccfpaaDoor
open Go
theorem FnDeskRun_proved : Rows.FnDeskRunCardSaid :=
  Claim7.holds_tied_plain_at .later [] [.data, .data, .data] true Rows.fnDeskRunCard.stood.harness true
    Go.Proofs.YtjefkdhecccfpaaDoor.Vc.FnDeskRun_holds (fun _ h => by cases h) (by kernel_rfl) (fun _ h => by cases h) fnDeskRun_row_tie rfl ⟨rfl, rfl⟩ (by kernel_rfl) rfl
    (fun f fn hf hfn => by
      obtain rfl : f = 4 := Option.some.inj ((show Tryd.prog.funcNamed Rows.fnDeskRunRow.func = some 4 by kernel_rfl).symm.trans hf) |>.symm
      obtain rfl : fn = Tryd.f4 := (Option.some.inj (Tryd.func4.symm.trans hfn)).symm
      exact ⟨by kernel_rfl, fun j t ht => by
        rw [Tryd.params4] at ht
        have hk : ∀ t ∈ #[22].toList, Tryd.prog.wantsStandIn t = false := by
          intro t h
          simp only [List.mem_cons, List.not_mem_nil, or_false] at h
          rcases h with rfl <;> kernel_rfl
        exact hk t (Array.mem_toList_iff.2 (Array.mem_of_getElem? ht))⟩)
    (by kernel_rfl)
end Go.Proofs.YtjefkdhecccfpaaDoor
end
