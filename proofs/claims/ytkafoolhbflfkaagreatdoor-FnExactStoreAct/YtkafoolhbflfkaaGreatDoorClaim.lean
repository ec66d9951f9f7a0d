/- FnExactStoreAct: for every input the law returns true; the tables that it reads are those of the program's text. -/
import Derived.Test.YtkafoolhbflfkaaGreatDoorVc10
section
namespace Go.Proofs.YtkafoolhbflfkaaGreatDoor
open Go
set_option maxHeartbeats 4000000
theorem FnExactStoreAct_proved : Rows.FnExactStoreActCardSaid :=
 Claim7.holds_tied_plain_at .later [] [.data, .data, .data, .data, .sentinel, .sentinel, .pinned] true Rows.fnExactStoreActCard.stood.harness true
  Go.Proofs.YtkafoolhbflfkaaGreatDoor.Vc.FnExactStoreAct_holds (fun _ h => by cases h) (by as_aux_lemma => kernel_rfl) (fun _ h => by cases h) fnExactStoreAct_row_tie rfl ⟨rfl, rfl⟩ (by as_aux_lemma => kernel_rfl) rfl
  (fun f fn hf hfn => by
   obtain rfl : f = 8 := Option.some.inj ((show Tryz.prog.funcNamed Rows.fnExactStoreActRow.func = some 8 by kernel_rfl).symm.trans hf) |>.symm
   obtain rfl : fn = Tryz.f8 := (Option.some.inj (Tryz.func8.symm.trans hfn)).symm
   exact ⟨Go.Proofs.YtkafoolhbflfkaaGreatDoor.Vc.pwL, fun j t ht => by
    rw [Tryz.params8] at ht
    have hk : ∀ t ∈ #[49, 55].toList, Tryz.prog.wantsStandIn t = false := by
     intro t h
     simp only [List.mem_cons, List.not_mem_nil, or_false] at h
     rcases h with rfl | rfl <;> as_aux_lemma => kernel_rfl
    exact hk t (Array.mem_toList_iff.2 (Array.mem_of_getElem? ht))⟩)
  (by as_aux_lemma => kernel_rfl)
end Go.Proofs.YtkafoolhbflfkaaGreatDoor
end
