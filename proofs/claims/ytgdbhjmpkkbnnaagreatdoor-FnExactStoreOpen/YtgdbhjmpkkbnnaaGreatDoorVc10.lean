/- The row of FnExactStoreOpen: for every input it returns true. -/
import Derived.Test.YtgdbhjmpkkbnnaaGreatDoorVc9
section
namespace Go.Proofs.YtgdbhjmpkkbnnaaGreatDoor.Vc
open Go.Proofs Go.ChangeShapes Go.WideShapes Go.ChangeAt Go.RowKit
open Go.Proofs.YtgdbhjmpkkbnnaaGreatDoor
set_option maxRecDepth 100000
set_option maxHeartbeats 4000000
theorem metFnExactStoreOpen (os:Os) (args:Array Value):laidMet Tryz.prog Rows.fnExactStoreOpenRow.laid ((World.laidAll Tryz.prog os Rows.fnExactStoreOpenRow.laid).forCall (fun _ _=>0) ⟨#[],args,[]⟩).memory :=
 laidMet_laidAll args (by kernel_rfl) (by kernel_rfl)
theorem goodFnExactStoreOpen {W:World} (h:laidMet Tryz.prog Rows.fnExactStoreOpenRow.laid W) (hs:W.ShapedOpen Tryz.prog):Good W :=
 ⟨Lib.tabIs_of_head (rest := []) rfl rfl rfl rfl (by kernel_rfl) (by kernel_rfl) (h.filter fun x => x.1 == "internal/strconv.uint64pow10"),
 hold_len (g:=0) (zero:=#[.int .i64 0]) (t:=3) hs (by kernel_rfl) (of_decide_eq_true (by kernel_rfl)) (by kernel_rfl) rfl (by kernel_rfl) (by kernel_rfl) Tryz.underlying3,
 (hold_err (g := 1) (r := []) (ti := 161) (tp := 230) (te := 232) (ts := 9) (h.filter fun x => x.1 == "strconv.ErrSyntax") (by kernel_rfl) (by kernel_rfl) Tryz.underlying161 (by rw [star]; kernel_rfl) (by kernel_rfl) Tryz.underlying230 Tryz.underlying232 rfl rfl Tryz.underlying9 (by kernel_rfl) (by kernel_rfl)),
 (hold_err (g := 2) (r := []) (ti := 161) (tp := 230) (te := 232) (ts := 9) (h.filter fun x => x.1 == "strconv.ErrRange") (by kernel_rfl) (by kernel_rfl) Tryz.underlying161 (by rw [star]; kernel_rfl) (by kernel_rfl) Tryz.underlying230 Tryz.underlying232 rfl rfl Tryz.underlying9 (by kernel_rfl) (by kernel_rfl))⟩
theorem liftedFnExactStoreOpen (os:Os) (started:os.Started) (H:Type) (enc:TypeId × Value→H) :
  ReturnsInHanded {} Tryz.checked os 7 .any (fun w args=>(Rows.fnExactStoreOpenSpec.pre enc Tryz.prog Tryz.f7 [] false w args∧laidMet Tryz.prog Rows.fnExactStoreOpenRow.laid w)∧sizedMet enc Tryz.prog Tryz.f7 (OpenSpec.ofChange Rows.fnExactStoreOpenSpec) false w args)
   (Rows.fnExactStoreOpenSpec.post enc Tryz.prog Tryz.f7 false true false false):=by
 refine returns_and_shaped (C:=Tryz.checked) (X:=fun w _=>laidMet Tryz.prog Rows.fnExactStoreOpenRow.laid w) (fun _ _ _ hh h=>h.of_heap hh) own started (by kernel_rfl) Tryz.func7
  (ChangeSpec.witness_at (enc:=enc) (C:=Tryz.checked) (os:=os) (X:=fun w _=>laidMet Tryz.prog Rows.fnExactStoreOpenRow.laid w) false (World.laidAll Tryz.prog os Rows.fnExactStoreOpenRow.laid) #[.agg #[.string ⟨#[]⟩,.string ⟨#[]⟩,.int .i64 0]] 8 (World.laidAll_os _ _ _) (by kernel_rfl) (by kernel_rfl) (by kernel_rfl) (by kernel_rfl) (by kernel_rfl) (metFnExactStoreOpen os _)) ?_
 intro W base args ds gs before hval0 hW hsh hL
 have hval:∀ (j:Nat) t v,Tryz.f7.params[j]?=some t→args[j]?=some v→Value.okWide Tryz.prog W .any base t v:=hval0
 have hW':=hW
 obtain ⟨p,q,hA0,hV,rfl,hfz,hnd⟩:=hW
 have hA:DataW.TrodAll enc Tryz.prog W 0 (fun _=>true) true Tryz.f7.params.toList args.toList ds p:=hA0
 rw [Tryz.params7] at hA hval
 obtain ⟨v0,vs0,d0,ds0,p0,q0,hargs,rfl,rfl,h0,r0⟩:=trodAll_cons hA
 obtain ⟨rfl,rfl,rfl⟩:=trodAll_nil r0
 obtain rfl:args=#[v0]:=by cases args; simp_all
 obtain ⟨rfl,rfl⟩:=trodVars_none hV
 have lt0:∀ x∈p0,x.block<W.heap.size:=by obtain ⟨m,hm⟩:=h0; exact DataW.trod_lt m _ _ _ hm
 obtain ⟨x0,a0,b0⟩:=op_store (⟨by kernel_rfl,_,_,_,Tryz.underlying68,rfl,rfl,rfl,Tryz.underlying9,Tryz.underlying9,Tryz.underlying3,by kernel_rfl,by kernel_rfl,by kernel_rfl⟩) (hval 0 68 v0 rfl rfl) h0
 refine (FF.below F369 (us:=[enSt x0]) (b:=true) ⟨x0,?_,⟨b0⟩,rfl⟩ (goodFnExactStoreOpen hL hsh) ⟨rfl,fun j hj=>?_⟩).mono fun e W' ⟨he,bel⟩=>?_
 ·exact wq
 ·match j,hj with
  |0,_=>exact a0
 subst he
 exact ⟨_,rfl,_,_,_,[],_,[],hW',trodAll_mk1 (shut_bool Tryz.underlying4 _),(trodAll_cons_mk (Below.trod laidOut (by kernel_rfl) (of_decide_eq_true (by kernel_rfl)) h0 bel lt0) trodAll_mk0),rfl,bel.frame _,fun h=>by cases h⟩
theorem closedFnExactStoreOpen:joinedFacts Tryz.checked.prog 7 Tryz.f7 Rows.fnExactStoreOpenSpec Rows.fnExactStoreOpenRow=true:=by
 unfold joinedFacts
 repeat' (with_reducible refine andT ?_ ?_)
 ·as_aux_lemma=>kernel_rfl
 ·exact pw2
 ·exact pw3
 ·as_aux_lemma=>kernel_rfl
 ·as_aux_lemma=>kernel_rfl
 ·as_aux_lemma=>kernel_rfl
 ·exact pw7
 ·as_aux_lemma=>kernel_rfl
 ·exact pw9
 ·as_aux_lemma=>kernel_rfl
 ·as_aux_lemma=>kernel_rfl
 ·as_aux_lemma=>kernel_rfl
 ·as_aux_lemma=>kernel_rfl
 ·as_aux_lemma=>kernel_rfl
 ·as_aux_lemma=>kernel_rfl
 ·as_aux_lemma=>kernel_rfl
 ·as_aux_lemma=>kernel_rfl
 ·as_aux_lemma=>kernel_rfl
 ·as_aux_lemma=>kernel_rfl
 ·as_aux_lemma=>kernel_rfl
 ·as_aux_lemma=>kernel_rfl
 ·as_aux_lemma=>kernel_rfl
 ·exact pw23
 ·as_aux_lemma=>kernel_rfl
 ·exact pw25
 ·exact pw26
 ·exact pw27
 ·exact pw28
 ·as_aux_lemma=>kernel_rfl
 ·as_aux_lemma=>kernel_rfl
 ·as_aux_lemma=>kernel_rfl
 ·as_aux_lemma=>kernel_rfl
theorem FnExactStoreOpen_holds:Rows.FnExactStoreOpenSaid :=
 OpenClaim.holds_of_wide 7 Tryz.f7 rfl rfl rfl rfl rfl rfl rfl ⟨rfl,rfl,rfl,rfl,rfl⟩ rfl rfl rfl rfl rfl (by kernel_rfl) Tryz.func7 closedFnExactStoreOpen
  (of_decide_eq_true (by kernel_rfl)) (by unfold Func.isWrapper; first|(rw [if_pos (by decide +kernel)]; kernel_rfl)|(rw [if_neg (by decide +kernel)]; exact ⟨rfl,rfl⟩))
  (fun os started H enc _=>liftedFnExactStoreOpen os started H enc)
end Go.Proofs.YtgdbhjmpkkbnnaaGreatDoor.Vc
end
