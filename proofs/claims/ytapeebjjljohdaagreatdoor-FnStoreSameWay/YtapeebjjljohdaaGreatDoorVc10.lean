/- The row of FnStoreSameWay: for every input it returns true. -/
import Derived.Test.YtapeebjjljohdaaGreatDoorVc9
section
namespace Go.Proofs.YtapeebjjljohdaaGreatDoor.Vc
open Go.Proofs Go.ChangeShapes Go.WideShapes Go.ChangeAt Go.RowKit
open Go.Proofs.YtapeebjjljohdaaGreatDoor
set_option maxRecDepth 100000
set_option maxHeartbeats 4000000
theorem metFnStoreSameWay (os:Os) (args:Array Value):laidMet Tryz.prog Rows.fnStoreSameWayRow.laid ((World.laidAll Tryz.prog os Rows.fnStoreSameWayRow.laid).forCall (fun _ _=>0) ⟨#[],args,[]⟩).memory :=
 laidMet_laidAll args (by kernel_rfl) (by kernel_rfl)
theorem goodFnStoreSameWay {W:World} (h:laidMet Tryz.prog Rows.fnStoreSameWayRow.laid W) (hs:W.ShapedOpen Tryz.prog):Good W :=
 ⟨Lib.tabIs_of_head (rest := []) rfl rfl rfl rfl (by kernel_rfl) (by kernel_rfl) (h.filter fun x => x.1 == "internal/strconv.uint64pow10"),
 hold_len (g:=0) (zero:=#[.int .i64 0]) (t:=3) hs (by kernel_rfl) (of_decide_eq_true (by kernel_rfl)) (by kernel_rfl) rfl (by kernel_rfl) (by kernel_rfl) Tryz.underlying3,
 (hold_err (g := 1) (r := []) (ti := 141) (tp := 225) (te := 227) (ts := 9) (h.filter fun x => x.1 == "strconv.ErrSyntax") (by kernel_rfl) (by kernel_rfl) Tryz.underlying141 (by rw [star]; kernel_rfl) (by kernel_rfl) Tryz.underlying225 Tryz.underlying227 rfl rfl Tryz.underlying9 (by kernel_rfl) (by kernel_rfl)),
 (hold_err (g := 2) (r := []) (ti := 141) (tp := 225) (te := 227) (ts := 9) (h.filter fun x => x.1 == "strconv.ErrRange") (by kernel_rfl) (by kernel_rfl) Tryz.underlying141 (by rw [star]; kernel_rfl) (by kernel_rfl) Tryz.underlying225 Tryz.underlying227 rfl rfl Tryz.underlying9 (by kernel_rfl) (by kernel_rfl))⟩
theorem liftedFnStoreSameWay (os:Os) (started:os.Started) (H:Type) (enc:TypeId × Value→H) :
  ReturnsInHanded {} Tryz.checked os 4 .any (fun w args=>(Rows.fnStoreSameWaySpec.pre enc Tryz.prog Tryz.f4 [] false w args∧laidMet Tryz.prog Rows.fnStoreSameWayRow.laid w)∧sizedMet enc Tryz.prog Tryz.f4 (OpenSpec.ofChange Rows.fnStoreSameWaySpec) false w args)
   (Rows.fnStoreSameWaySpec.post enc Tryz.prog Tryz.f4 false true false false):=by
 refine returns_and_shaped (C:=Tryz.checked) (X:=fun w _=>laidMet Tryz.prog Rows.fnStoreSameWayRow.laid w) (fun _ _ _ hh h=>h.of_heap hh) own started (by kernel_rfl) Tryz.func4
  (ChangeSpec.witness_at (enc:=enc) (C:=Tryz.checked) (os:=os) (X:=fun w _=>laidMet Tryz.prog Rows.fnStoreSameWayRow.laid w) false (World.laidAll Tryz.prog os Rows.fnStoreSameWayRow.laid) #[.slice none 0 0,.slice none 0 0] 8 (World.laidAll_os _ _ _) (by kernel_rfl) (by kernel_rfl) (by kernel_rfl) (by kernel_rfl) (by kernel_rfl) (metFnStoreSameWay os _)) ?_
 intro W base args ds gs before hval0 hW hsh hL
 have hval:∀ (j:Nat) t v,Tryz.f4.params[j]?=some t→args[j]?=some v→Value.okWide Tryz.prog W .any base t v:=hval0
 have hW':=hW
 obtain ⟨p,q,hA0,hV,rfl,hfz,hnd⟩:=hW
 have hA:DataW.TrodAll enc Tryz.prog W 0 (fun _=>true) true Tryz.f4.params.toList args.toList ds p:=hA0
 rw [Tryz.params4] at hA hval
 obtain ⟨v0,vs0,d0,ds0,p0,q0,hargs,rfl,rfl,h0,r0⟩:=trodAll_cons hA
 obtain ⟨v1,vs1,d1,ds1,p1,q1,rfl,rfl,rfl,h1,r1⟩:=trodAll_cons r0
 obtain ⟨rfl,rfl,rfl⟩:=trodAll_nil r1
 obtain rfl:args=#[v0,v1]:=by cases args; simp_all
 obtain ⟨rfl,rfl⟩:=trodVars_none hV
 have lt0:∀ x∈p0,x.block<W.heap.size:=by obtain ⟨m,hm⟩:=h0; exact DataW.trod_lt m _ _ _ hm
 have lt1:∀ x∈p1,x.block<W.heap.size:=by obtain ⟨m,hm⟩:=h1; exact DataW.trod_lt m _ _ _ hm
 obtain ⟨m0,l0,k0,e0⟩:=okWide_slice Tryz.underlying22 (hval 0 22 v0 rfl rfl)
 subst e0
 obtain ⟨x0,a0,b0,c0⟩:∃ l:List Int,DR (Rw0 W) W (slB l) (.slice m0 l0 k0)∧(∀ n∈l,u8r n)∧l.length<9223372036854775808:=by
  obtain ⟨fuel,hf⟩:=h0
  exact op_bytes Tryz.underlying22 Tryz.underlying5 (by kernel_rfl) hf
 obtain ⟨m1,l1,k1,e1⟩:=okWide_slice Tryz.underlying22 (hval 1 22 v1 rfl rfl)
 subst e1
 obtain ⟨x1,a1,b1,c1⟩:∃ l:List Int,DR (Rw0 W) W (slB l) (.slice m1 l1 k1)∧(∀ n∈l,u8r n)∧l.length<9223372036854775808:=by
  obtain ⟨fuel,hf⟩:=h1
  exact op_bytes Tryz.underlying22 Tryz.underlying5 (by kernel_rfl) hf
 refine (FF.below F309 (us:=[slB x0,slB x1]) (b:=true) ⟨(x0,x1),?_,⟨⟨⟨b0,c0⟩,⟨b1,c1⟩⟩⟩,rfl⟩ (goodFnStoreSameWay hL hsh) ⟨rfl,fun j hj=>?_⟩).mono fun e W' ⟨he,bel⟩=>?_
 ·exact wq
 ·match j,hj with
  |0,_=>exact .data a0
  |1,_=>exact .data a1
 subst he
 exact ⟨_,rfl,_,_,_,[],_,[],hW',trodAll_mk1 (shut_bool Tryz.underlying4 _),(trodAll_cons_mk (Below.trod laidOut (by kernel_rfl) (of_decide_eq_true (by kernel_rfl)) h0 bel lt0) (trodAll_cons_mk (Below.trod laidOut (by kernel_rfl) (of_decide_eq_true (by kernel_rfl)) h1 bel lt1) trodAll_mk0)),rfl,bel.frame _,fun h=>by cases h⟩
theorem closedFnStoreSameWay:joinedFacts Tryz.checked.prog 4 Tryz.f4 Rows.fnStoreSameWaySpec Rows.fnStoreSameWayRow=true:=by
 unfold joinedFacts
 repeat' (with_reducible refine andT ?_ ?_)
 ·as_aux_lemma=>kernel_rfl
 ·exact pw2
 ·exact pw3
 ·as_aux_lemma=>kernel_rfl
 ·as_aux_lemma=>kernel_rfl
 ·as_aux_lemma=>kernel_rfl
 ·exact pw7
 ·as_aux_lemma=>kernel_rfl
 ·exact pw9
 ·as_aux_lemma=>kernel_rfl
 ·as_aux_lemma=>kernel_rfl
 ·as_aux_lemma=>kernel_rfl
 ·as_aux_lemma=>kernel_rfl
 ·as_aux_lemma=>kernel_rfl
 ·as_aux_lemma=>kernel_rfl
 ·as_aux_lemma=>kernel_rfl
 ·as_aux_lemma=>kernel_rfl
 ·as_aux_lemma=>kernel_rfl
 ·as_aux_lemma=>kernel_rfl
 ·as_aux_lemma=>kernel_rfl
 ·as_aux_lemma=>kernel_rfl
 ·as_aux_lemma=>kernel_rfl
 ·exact pw23
 ·as_aux_lemma=>kernel_rfl
 ·exact pw25
 ·exact pw26
 ·exact pw27
 ·exact pw28
 ·as_aux_lemma=>kernel_rfl
 ·as_aux_lemma=>kernel_rfl
 ·as_aux_lemma=>kernel_rfl
 ·as_aux_lemma=>kernel_rfl
theorem FnStoreSameWay_holds:Rows.FnStoreSameWaySaid :=
 OpenClaim.holds_of_wide 4 Tryz.f4 rfl rfl rfl rfl rfl rfl rfl ⟨rfl,rfl,rfl,rfl,rfl⟩ rfl rfl rfl rfl rfl (by kernel_rfl) Tryz.func4 closedFnStoreSameWay
  (of_decide_eq_true (by kernel_rfl)) (by unfold Func.isWrapper; first|(rw [if_pos (by decide +kernel)]; kernel_rfl)|(rw [if_neg (by decide +kernel)]; exact ⟨rfl,rfl⟩))
  (fun os started H enc _=>liftedFnStoreSameWay os started H enc)
end Go.Proofs.YtapeebjjljohdaaGreatDoor.Vc
end
