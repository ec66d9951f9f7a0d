/- FnDeskDo: for every input the law returns true; the tables that it reads are those of the program's text. -/
import Derived.Test.YtjefkdhecccfpaaDoorVc7
section
namespace Go.Proofs.YtjefkdhecccfpaaDoor
open Go
theorem FnDeskDo_proved : Rows.FnDeskDoCardSaid :=
  Claim7.holds_tied_plain_at .later [] [.data, .data, .data] true Rows.fnDeskDoCard.stood.harness true
    Go.Proofs.YtjefkdhecccfpaaDoor.Vc.FnDeskDo_holds (fun _ h => by cases h) (by kernel_rfl) (fun _ h => by cases h) fnDeskDo_row_tie rfl ⟨rfl, rfl⟩ (by kernel_rfl) rfl
    (fun f fn hf hfn => by
      obtain rfl : f = 3 := Option.some.inj ((show Tryd.prog.funcNamed Rows.fnDeskDoRow.func = some 3 by kernel_rfl).symm.trans hf) |>.symm
      obtain rfl : fn = Tryd.f3 := (Option.some.inj (Tryd.func3.symm.trans hfn)).symm
      exact ⟨by kernel_rfl, fun j t ht => by
        rw [Tryd.params3] at ht
        have hk : ∀ t ∈ #[22].toList, Tryd.prog.wantsStandIn t = false := by
          intro t h
          simp only [List.mem_cons, List.not_mem_nil, or_false] at h
          rcases h with rfl <;> kernel_rfl
        exact hk t (Array.mem_toList_iff.2 (Array.mem_of_getElem? ht))⟩)
    (by kernel_rfl)
end Go.Proofs.YtjefkdhecccfpaaDoor
end
