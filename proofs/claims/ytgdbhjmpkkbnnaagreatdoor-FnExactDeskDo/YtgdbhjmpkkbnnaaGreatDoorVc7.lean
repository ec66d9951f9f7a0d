/- The row of FnExactDeskDo: for every input it returns true. -/
import Derived.Test.YtgdbhjmpkkbnnaaGreatDoorVc6
section
namespace Go.Proofs.YtgdbhjmpkkbnnaaGreatDoor.Vc
open Go.Proofs Go.ChangeShapes Go.WideShapes Go.ChangeAt Go.RowKit
open Go.Proofs.YtgdbhjmpkkbnnaaGreatDoor
set_option maxRecDepth 100000
set_option maxHeartbeats 4000000
theorem metFnExactDeskDo (os:Os) (args:Array Value):laidMet Tryz.prog Rows.fnExactDeskDoRow.laid ((World.laidAll Tryz.prog os Rows.fnExactDeskDoRow.laid).forCall (fun _ _=>0) ⟨#[],args,[]⟩).memory :=
 laidMet_laidAll args (by kernel_rfl) (by kernel_rfl)
theorem goodFnExactDeskDo {W:World} (h:laidMet Tryz.prog Rows.fnExactDeskDoRow.laid W):Good W :=
 ⟨Lib.tabIs_of_head (rest := []) rfl rfl rfl rfl (by kernel_rfl) (by kernel_rfl) (h.filter fun x => x.1 == "internal/strconv.uint64pow10")⟩
theorem liftedFnExactDeskDo (os:Os) (started:os.Started) (H:Type) (enc:TypeId × Value→H) :
  ReturnsInHanded {} Tryz.checked os 5 .any (fun w args=>(Rows.fnExactDeskDoSpec.pre enc Tryz.prog Tryz.f5 [] false w args∧laidMet Tryz.prog Rows.fnExactDeskDoRow.laid w)∧sizedMet enc Tryz.prog Tryz.f5 (OpenSpec.ofChange Rows.fnExactDeskDoSpec) false w args)
   (Rows.fnExactDeskDoSpec.post enc Tryz.prog Tryz.f5 false true false false):=by
 refine returnsInHanded_of_change_and (C:=Tryz.checked) (X:=fun w _=>laidMet Tryz.prog Rows.fnExactDeskDoRow.laid w) (fun _ _ _ hh h=>h.of_heap hh) own started (by kernel_rfl) Tryz.func5
  (ChangeSpec.witness_at (enc:=enc) (C:=Tryz.checked) (os:=os) (X:=fun w _=>laidMet Tryz.prog Rows.fnExactDeskDoRow.laid w) false (World.laidAll Tryz.prog os Rows.fnExactDeskDoRow.laid) #[.agg #[.int .i64 0,.slice none 0 0,.slice none 0 0,.slice none 0 0],.agg #[.int .i64 0,.int .i64 0,.int .i64 0,.string ⟨#[]⟩]] 8 (World.laidAll_os _ _ _) (by kernel_rfl) (by kernel_rfl) (by kernel_rfl) (by kernel_rfl) (by kernel_rfl) (metFnExactDeskDo os _)) ?_
 intro W base args ds gs before hval0 hW _ _ hL _
 have hval:∀ (j:Nat) t v,Tryz.f5.params[j]?=some t→args[j]?=some v→Value.okWide Tryz.prog W .any base t v:=hval0
 have hW':=hW
 obtain ⟨p,q,hA0,hV,rfl,hfz,hnd⟩:=hW
 have hA:DataW.TrodAll enc Tryz.prog W 0 (fun _=>true) true Tryz.f5.params.toList args.toList ds p:=hA0
 rw [Tryz.params5] at hA hval
 obtain ⟨v0,vs0,d0,ds0,p0,q0,hargs,rfl,rfl,h0,r0⟩:=trodAll_cons hA
 obtain ⟨v1,vs1,d1,ds1,p1,q1,rfl,rfl,rfl,h1,r1⟩:=trodAll_cons r0
 obtain ⟨rfl,rfl,rfl⟩:=trodAll_nil r1
 obtain rfl:args=#[v0,v1]:=by cases args; simp_all
 obtain ⟨rfl,rfl⟩:=trodVars_none hV
 have lt0:∀ x∈p0,x.block<W.heap.size:=by obtain ⟨m,hm⟩:=h0; exact DataW.trod_lt m _ _ _ hm
 have lt1:∀ x∈p1,x.block<W.heap.size:=by obtain ⟨m,hm⟩:=h1; exact DataW.trod_lt m _ _ _ hm
 obtain ⟨x0,a0,b0⟩:=op_desk (⟨by kernel_rfl,_,_,Tryz.underlying30,rfl,rfl,⟨by kernel_rfl,_,_,Tryz.underlying27,rfl,rfl,⟨by kernel_rfl,_,_,Tryz.underlying24,rfl,rfl,Tryz.underlying3,by kernel_rfl,⟨by kernel_rfl,_,Tryz.underlying22,Tryz.underlying3,by kernel_rfl⟩⟩,⟨by kernel_rfl,_,Tryz.underlying25,Tryz.underlying9,by kernel_rfl⟩⟩,⟨by kernel_rfl,_,Tryz.underlying28,⟨by kernel_rfl,_,_,Tryz.underlying27,rfl,rfl,⟨by kernel_rfl,_,_,Tryz.underlying24,rfl,rfl,Tryz.underlying3,by kernel_rfl,⟨by kernel_rfl,_,Tryz.underlying22,Tryz.underlying3,by kernel_rfl⟩⟩,⟨by kernel_rfl,_,Tryz.underlying25,Tryz.underlying9,by kernel_rfl⟩⟩⟩⟩) (hval 0 30 v0 rfl rfl) h0
 obtain ⟨x1,a1,b1⟩:=op_deedT (⟨by kernel_rfl,_,_,_,_,Tryz.underlying51,rfl,rfl,rfl,rfl,Tryz.underlying3,Tryz.underlying3,Tryz.underlying3,Tryz.underlying9,by kernel_rfl,by kernel_rfl,by kernel_rfl,by kernel_rfl⟩) (hval 1 51 v1 rfl rfl) h1
 refine (FF.below F270 (us:=[enDe x0,ded x1]) (b:=true) ⟨(x0,x1),?_,⟨⟨b0,b1⟩⟩,rfl⟩ (goodFnExactDeskDo hL) ⟨rfl,fun j hj=>?_⟩).mono fun e W' ⟨he,bel⟩=>?_
 ·exact wq
 ·match j,hj with
  |0,_=>exact a0
  |1,_=>exact a1
 subst he
 exact ⟨_,rfl,_,_,_,[],_,[],hW',trodAll_mk1 (shut_bool Tryz.underlying4 _),(trodAll_cons_mk (Below.trod laidOut (by kernel_rfl) (of_decide_eq_true (by kernel_rfl)) h0 bel lt0) (trodAll_cons_mk (Below.trod laidOut (by kernel_rfl) (of_decide_eq_true (by kernel_rfl)) h1 bel lt1) trodAll_mk0)),rfl,bel.frame _,fun h=>by cases h⟩
theorem closedFnExactDeskDo:joinedFacts Tryz.checked.prog 5 Tryz.f5 Rows.fnExactDeskDoSpec Rows.fnExactDeskDoRow=true:=by
 unfold joinedFacts
 repeat' (with_reducible refine andT ?_ ?_)
 ·as_aux_lemma=>kernel_rfl
 ·exact pw2
 ·exact pw3
 ·as_aux_lemma=>kernel_rfl
 ·as_aux_lemma=>kernel_rfl
 ·as_aux_lemma=>kernel_rfl
 ·exact pw7
 ·as_aux_lemma=>kernel_rfl
 ·exact pw9
 ·as_aux_lemma=>kernel_rfl
 ·as_aux_lemma=>kernel_rfl
 ·as_aux_lemma=>kernel_rfl
 ·as_aux_lemma=>kernel_rfl
 ·as_aux_lemma=>kernel_rfl
 ·as_aux_lemma=>kernel_rfl
 ·as_aux_lemma=>kernel_rfl
 ·as_aux_lemma=>kernel_rfl
 ·as_aux_lemma=>kernel_rfl
 ·as_aux_lemma=>kernel_rfl
 ·as_aux_lemma=>kernel_rfl
 ·as_aux_lemma=>kernel_rfl
 ·as_aux_lemma=>kernel_rfl
 ·exact pw23
 ·as_aux_lemma=>kernel_rfl
 ·exact pw25
 ·exact pw26
 ·exact pw27
 ·exact pw28
 ·as_aux_lemma=>kernel_rfl
 ·as_aux_lemma=>kernel_rfl
 ·as_aux_lemma=>kernel_rfl
 ·as_aux_lemma=>kernel_rfl
theorem FnExactDeskDo_holds:Rows.FnExactDeskDoSaid :=
 OpenClaim.holds_of_wide 5 Tryz.f5 rfl rfl rfl rfl rfl rfl rfl ⟨rfl,rfl,rfl,rfl,rfl⟩ rfl rfl rfl rfl rfl (by kernel_rfl) Tryz.func5 closedFnExactDeskDo
  (of_decide_eq_true (by kernel_rfl)) (by unfold Func.isWrapper; first|(rw [if_pos (by decide +kernel)]; kernel_rfl)|(rw [if_neg (by decide +kernel)]; exact ⟨rfl,rfl⟩))
  (fun os started H enc _=>liftedFnExactDeskDo os started H enc)
end Go.Proofs.YtgdbhjmpkkbnnaaGreatDoor.Vc
end
