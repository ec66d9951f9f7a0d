/- FnExactDeskDo: for every input the law returns true; the tables that it reads are those of the program's text. -/
import Derived.Test.YtgdbhjmpkkbnnaaGreatDoorVc7
section
namespace Go.Proofs.YtgdbhjmpkkbnnaaGreatDoor
open Go
set_option maxHeartbeats 4000000
theorem FnExactDeskDo_proved:Rows.FnExactDeskDoCardSaid :=
 Claim7.holds_tied_plain_at .later [] [.data,.data,.data] true Rows.fnExactDeskDoCard.stood.harness true
  Go.Proofs.YtgdbhjmpkkbnnaaGreatDoor.Vc.FnExactDeskDo_holds (fun _ h=>by cases h) (by as_aux_lemma=>kernel_rfl) (fun _ h=>by cases h) fnExactDeskDo_row_tie rfl ⟨rfl,rfl⟩ (by as_aux_lemma=>kernel_rfl) rfl
  (fun f fn hf hfn=>by
   obtain rfl:f=5:=Option.some.inj ((show Tryz.prog.funcNamed Rows.fnExactDeskDoRow.func=some 5 by kernel_rfl).symm.trans hf) |>.symm
   obtain rfl:fn=Tryz.f5:=(Option.some.inj (Tryz.func5.symm.trans hfn)).symm
   exact ⟨Go.Proofs.YtgdbhjmpkkbnnaaGreatDoor.Vc.pwL,fun j t ht=>by
    rw [Tryz.params5] at ht
    have hk:∀ t∈#[30,51].toList,Tryz.prog.wantsStandIn t=false:=by
     intro t h
     simp only [List.mem_cons,List.not_mem_nil,or_false] at h
     rcases h with rfl|rfl <;> as_aux_lemma=>kernel_rfl
    exact hk t (Array.mem_toList_iff.2 (Array.mem_of_getElem? ht))⟩)
  (by as_aux_lemma=>kernel_rfl)
end Go.Proofs.YtgdbhjmpkkbnnaaGreatDoor
end
