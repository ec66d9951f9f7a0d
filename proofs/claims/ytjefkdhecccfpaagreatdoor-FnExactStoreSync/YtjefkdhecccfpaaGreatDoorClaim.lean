/- FnExactStoreSync: for every input the law returns true; the tables that it reads are those of the program's text. -/
import Derived.Test.YtjefkdhecccfpaaGreatDoorVc5
section
namespace Go.Proofs.YtjefkdhecccfpaaGreatDoor
open Go
theorem FnExactStoreSync_proved : Rows.FnExactStoreSyncCardSaid :=
  Claim7.holds_tied_plain_at .later [] [.data, .data, .data, .data, .sentinel, .sentinel, .pinned] true Rows.fnExactStoreSyncCard.stood.harness true
    Go.Proofs.YtjefkdhecccfpaaGreatDoor.Vc.FnExactStoreSync_holds (fun _ h => by cases h) (by kernel_rfl) (fun _ h => by cases h) fnExactStoreSync_row_tie rfl ⟨rfl, rfl⟩ (by kernel_rfl) rfl
    (fun f fn hf hfn => by
      obtain rfl : f = 6 := Option.some.inj ((show Tryz.prog.funcNamed Rows.fnExactStoreSyncRow.func = some 6 by kernel_rfl).symm.trans hf) |>.symm
      obtain rfl : fn = Tryz.f6 := (Option.some.inj (Tryz.func6.symm.trans hfn)).symm
      exact ⟨by kernel_rfl, fun j t ht => by
        rw [Tryz.params6] at ht
        have hk : ∀ t ∈ #[59].toList, Tryz.prog.wantsStandIn t = false := by
          intro t h
          simp only [List.mem_cons, List.not_mem_nil, or_false] at h
          rcases h with rfl <;> kernel_rfl
        exact hk t (Array.mem_toList_iff.2 (Array.mem_of_getElem? ht))⟩)
    (by kernel_rfl)
end Go.Proofs.YtjefkdhecccfpaaGreatDoor
end
