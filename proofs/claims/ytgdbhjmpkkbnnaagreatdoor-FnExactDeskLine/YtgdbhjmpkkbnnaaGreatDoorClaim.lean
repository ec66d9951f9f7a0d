/- FnExactDeskLine: for every input the law returns true; the tables that it reads are those of the program's text. -/
import Derived.Test.YtgdbhjmpkkbnnaaGreatDoorVc10
section
namespace Go.Proofs.YtgdbhjmpkkbnnaaGreatDoor
open Go
set_option maxHeartbeats 4000000
theorem FnExactDeskLine_proved:Rows.FnExactDeskLineCardSaid :=
 Claim7.holds_tied_plain_at .later [] [.data,.data,.data,.data,.sentinel,.sentinel,.pinned] true Rows.fnExactDeskLineCard.stood.harness true
  Go.Proofs.YtgdbhjmpkkbnnaaGreatDoor.Vc.FnExactDeskLine_holds (fun _ h=>by cases h) (by as_aux_lemma=>kernel_rfl) (fun _ h=>by cases h) fnExactDeskLine_row_tie rfl ⟨rfl,rfl⟩ (by as_aux_lemma=>kernel_rfl) rfl
  (fun f fn hf hfn=>by
   obtain rfl:f=3:=Option.some.inj ((show Tryz.prog.funcNamed Rows.fnExactDeskLineRow.func=some 3 by kernel_rfl).symm.trans hf) |>.symm
   obtain rfl:fn=Tryz.f3:=(Option.some.inj (Tryz.func3.symm.trans hfn)).symm
   exact ⟨Go.Proofs.YtgdbhjmpkkbnnaaGreatDoor.Vc.pwL,fun j t ht=>by
    rw [Tryz.params3] at ht
    have hk:∀ t∈#[30,9].toList,Tryz.prog.wantsStandIn t=false:=by
     intro t h
     simp only [List.mem_cons,List.not_mem_nil,or_false] at h
     rcases h with rfl|rfl <;> as_aux_lemma=>kernel_rfl
    exact hk t (Array.mem_toList_iff.2 (Array.mem_of_getElem? ht))⟩)
  (by as_aux_lemma=>kernel_rfl)
end Go.Proofs.YtgdbhjmpkkbnnaaGreatDoor
end
