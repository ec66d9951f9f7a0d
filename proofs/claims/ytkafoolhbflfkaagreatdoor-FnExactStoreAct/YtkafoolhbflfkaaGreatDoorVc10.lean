/- The row of FnExactStoreAct: for every input it returns true. -/
import Derived.Test.YtkafoolhbflfkaaGreatDoorVc9
section
namespace Go.Proofs.YtkafoolhbflfkaaGreatDoor.Vc
open Go.Proofs Go.ChangeShapes Go.WideShapes Go.ChangeAt Go.RowKit
section
variable (P : Program)
def IsDeed (t : TypeId) : Prop := P.cellsOf t = 4 ∧ ∃ f0 f1 f2 f3, P.underlying t = some (.struct #[f0, f1, f2, f3]) ∧ f0.offset = 0 ∧ f1.offset = 1 ∧ f2.offset = 2 ∧ f3.offset = 3 ∧ P.underlying f0.type = some (.int .i64) ∧ P.underlying f1.type = some (.int .i64) ∧ P.underlying f2.type = some (.int .i64) ∧ P.underlying f3.type = some .string ∧ P.cellsOf f0.type = 1 ∧ P.cellsOf f1.type = 1 ∧ P.cellsOf f2.type = 1 ∧ P.cellsOf f3.type = 1
end
section
variable {H : Type} {enc : TypeId × Value → H} {P : Program} {w : World} {spare : Nat → Bool} {held : Bool}
theorem op_deedT {t : TypeId} {v : Value} {d : DataW H} {ps : List MemPlace} {r : Reach} {b0 : Nat} (hT : IsDeed P t) (hv : Value.okWide P w r b0 t v) (h : DataW.Trod enc P w 0 spare held t v d ps) : ∃ h : Dd, PV (Rw0 w) w (ded h) v ∧ dedI h := by
  obtain ⟨ce, f0, f1, f2, f3, ht, o0, o1, o2, o3, k0, k1, k2, k3, c0, c1, c2, c3⟩ := hT
  obtain ⟨cs, rfl, hcs⟩ := okWide_struct ht hv
  obtain ⟨fuel, hf⟩ := h
  obtain ⟨y0, y1, y2, y3, n, _, hl, g0, g1, g2, g3⟩ := Go.Joins.trod_struct4 ht hf
  have e0 : (Value.agg cs).cells.toList = cs.toList := rfl
  rw [e0] at g0 g1 g2 g3 hl
  rw [ce] at hl
  obtain ⟨cs⟩ := cs
  match cs, hl with
  | [v0, v1, v2, v3], _ =>
    simp [o0, o1, o2, o3, c0, c1, c2, c3] at g0 g1 g2 g3
    obtain ⟨k, e1, _, w0⟩ := DataW.trod_int k0 g0
    obtain ⟨a, e2, _, w1⟩ := DataW.trod_int k1 g1
    obtain ⟨b, e3, _, w2⟩ := DataW.trod_int k2 g2
    obtain ⟨s, e4, _, w3⟩ := DataW.trod_string k3 g3
    simp only [List.cons.injEq, and_true] at e1 e2 e3 e4
    subst e1; subst e2; subst e3; subst e4
    have : maxLen = 9223372036854775807 := rfl
    refine ⟨⟨k, a, b, s⟩, .agg _ _ rfl fun j hj => ?_, i64_wf w0, i64_wf w1, i64_wf w2, by show s.size < _; omega⟩
    match j, hj with
    | 0, _ => exact .data (.int _ _)
    | 1, _ => exact .data (.int _ _)
    | 2, _ => exact .data (.int _ _)
    | 3, _ => exact .data (.str _)
end
end Go.Proofs.YtkafoolhbflfkaaGreatDoor.Vc
end
section
namespace Go.Proofs.YtkafoolhbflfkaaGreatDoor.Vc
open Go.Proofs Go.ChangeShapes Go.WideShapes Go.ChangeAt Go.RowKit
open Go.Proofs.YtkafoolhbflfkaaGreatDoor
set_option maxRecDepth 100000
set_option maxHeartbeats 4000000
theorem metFnExactStoreAct (os : Os) (args : Array Value) : laidMet Tryz.prog Rows.fnExactStoreActRow.laid ((World.laidAll Tryz.prog os Rows.fnExactStoreActRow.laid).forCall (fun _ _ => 0) ⟨#[], args, []⟩).memory :=
 laidMet_laidAll args (by kernel_rfl) (by kernel_rfl)
theorem goodFnExactStoreAct {W : World} (h : laidMet Tryz.prog Rows.fnExactStoreActRow.laid W) (hs : W.ShapedOpen Tryz.prog) : Good W :=
 ⟨Lib.tabIs_of_head (rest := []) rfl rfl rfl rfl (by kernel_rfl) (by kernel_rfl) (h.filter fun x => x.1 == "internal/strconv.uint64pow10"),
 hold_len (g := 0) (zero := #[.int .i64 0]) (t := 3) hs (by kernel_rfl) (of_decide_eq_true (by kernel_rfl)) (by kernel_rfl) rfl (by kernel_rfl) (by kernel_rfl) Tryz.underlying3,
 (hold_err (g := 2) (r := []) (ti := 139) (tp := 206) (te := 208) (ts := 9) (h.filter fun x => x.1 == "strconv.ErrSyntax") (by kernel_rfl) (by kernel_rfl) Tryz.underlying139 (by rw [star]; kernel_rfl) (by kernel_rfl) Tryz.underlying206 Tryz.underlying208 rfl rfl Tryz.underlying9 (by kernel_rfl) (by kernel_rfl)),
 (hold_err (g := 3) (r := []) (ti := 139) (tp := 206) (te := 208) (ts := 9) (h.filter fun x => x.1 == "strconv.ErrRange") (by kernel_rfl) (by kernel_rfl) Tryz.underlying139 (by rw [star]; kernel_rfl) (by kernel_rfl) Tryz.underlying206 Tryz.underlying208 rfl rfl Tryz.underlying9 (by kernel_rfl) (by kernel_rfl))⟩
theorem liftedFnExactStoreAct (os : Os) (started : os.Started) (H : Type) (enc : TypeId × Value → H) :
  ReturnsInHanded {} Tryz.checked os 8 .any (fun w args => (Rows.fnExactStoreActSpec.pre enc Tryz.prog Tryz.f8 [] false w args ∧ laidMet Tryz.prog Rows.fnExactStoreActRow.laid w) ∧ sizedMet enc Tryz.prog Tryz.f8 (OpenSpec.ofChange Rows.fnExactStoreActSpec) false w args)
   (Rows.fnExactStoreActSpec.post enc Tryz.prog Tryz.f8 false true false false) := by
 refine returns_and_shaped (C := Tryz.checked) (X := fun w _ => laidMet Tryz.prog Rows.fnExactStoreActRow.laid w) (fun _ _ _ hh h => h.of_heap hh) own started (by kernel_rfl) Tryz.func8
  (ChangeSpec.witness_at (enc := enc) (C := Tryz.checked) (os := os) (X := fun w _ => laidMet Tryz.prog Rows.fnExactStoreActRow.laid w) false (World.laidAll Tryz.prog os Rows.fnExactStoreActRow.laid) #[.agg #[.string ⟨#[]⟩, .string ⟨#[]⟩, .int .i64 0], .agg #[.int .i64 0, .int .i64 0, .int .i64 0, .string ⟨#[]⟩]] 8 (World.laidAll_os _ _ _) (by kernel_rfl) (by kernel_rfl) (by kernel_rfl) (by kernel_rfl) (by kernel_rfl) (metFnExactStoreAct os _)) ?_
 intro W base args ds gs before hval0 hW hsh hL
 have hval : ∀ (j : Nat) t v, Tryz.f8.params[j]? = some t → args[j]? = some v → Value.okWide Tryz.prog W .any base t v := hval0
 have hW' := hW
 obtain ⟨p, q, hA0, hV, rfl, hfz, hnd⟩ := hW
 have hA : DataW.TrodAll enc Tryz.prog W 0 (fun _ => true) true Tryz.f8.params.toList args.toList ds p := hA0
 rw [Tryz.params8] at hA hval
 obtain ⟨v0, vs0, d0, ds0, p0, q0, hargs, rfl, rfl, h0, r0⟩ := trodAll_cons hA
 obtain ⟨v1, vs1, d1, ds1, p1, q1, rfl, rfl, rfl, h1, r1⟩ := trodAll_cons r0
 obtain ⟨rfl, rfl, rfl⟩ := trodAll_nil r1
 obtain rfl : args = #[v0, v1] := by cases args; simp_all
 obtain ⟨rfl, rfl⟩ := trodVars_none hV
 have lt0 : ∀ x ∈ p0, x.block < W.heap.size := by obtain ⟨m, hm⟩ := h0; exact DataW.trod_lt m _ _ _ hm
 have lt1 : ∀ x ∈ p1, x.block < W.heap.size := by obtain ⟨m, hm⟩ := h1; exact DataW.trod_lt m _ _ _ hm
 obtain ⟨x0, a0, b0⟩ := op_store (⟨by kernel_rfl, _, _, _, Tryz.underlying49, rfl, rfl, rfl, Tryz.underlying9, Tryz.underlying9, Tryz.underlying3, by kernel_rfl, by kernel_rfl, by kernel_rfl⟩) (hval 0 49 v0 rfl rfl) h0
 obtain ⟨x1, a1, b1⟩ := op_deedT (⟨by kernel_rfl, _, _, _, _, Tryz.underlying55, rfl, rfl, rfl, rfl, Tryz.underlying3, Tryz.underlying3, Tryz.underlying3, Tryz.underlying9, by kernel_rfl, by kernel_rfl, by kernel_rfl, by kernel_rfl⟩) (hval 1 55 v1 rfl rfl) h1
 refine (FF.below F302 (us := [enSt x0, ded x1]) (b := true) ⟨(x0, x1), ?_, ⟨⟨b0, b1⟩⟩, rfl⟩ (goodFnExactStoreAct hL hsh) ⟨rfl, fun j hj => ?_⟩).mono fun e W' ⟨he, bel⟩ => ?_
 ·repeat' ((conv=>whnf);first|with_reducible exact True.intro|exact vW|with_reducible refine And.intro ?_ ?_)
 ·match j, hj with
  |0, _ => exact a0
  |1, _ => exact a1
 subst he
 exact ⟨_, rfl, _, _, _, [], _, [], hW', trodAll_mk1 (shut_bool Tryz.underlying4 _), (trodAll_cons_mk (Below.trod laidOut (by kernel_rfl) (of_decide_eq_true (by kernel_rfl)) h0 bel lt0) (trodAll_cons_mk (Below.trod laidOut (by kernel_rfl) (of_decide_eq_true (by kernel_rfl)) h1 bel lt1) trodAll_mk0)), rfl, bel.frame _, fun h => by cases h⟩
theorem closedFnExactStoreAct : joinedFacts Tryz.checked.prog 8 Tryz.f8 Rows.fnExactStoreActSpec Rows.fnExactStoreActRow = true := by
 unfold joinedFacts
 repeat' (with_reducible refine andT ?_ ?_)
 ·as_aux_lemma => kernel_rfl
 ·exact pw2
 ·exact pw3
 ·as_aux_lemma => kernel_rfl
 ·as_aux_lemma => kernel_rfl
 ·as_aux_lemma => kernel_rfl
 ·exact pw7
 ·as_aux_lemma => kernel_rfl
 ·exact pw9
 ·as_aux_lemma => kernel_rfl
 ·as_aux_lemma => kernel_rfl
 ·as_aux_lemma => kernel_rfl
 ·as_aux_lemma => kernel_rfl
 ·as_aux_lemma => kernel_rfl
 ·as_aux_lemma => kernel_rfl
 ·as_aux_lemma => kernel_rfl
 ·as_aux_lemma => kernel_rfl
 ·as_aux_lemma => kernel_rfl
 ·as_aux_lemma => kernel_rfl
 ·as_aux_lemma => kernel_rfl
 ·as_aux_lemma => kernel_rfl
 ·as_aux_lemma => kernel_rfl
 ·exact pw23
 ·as_aux_lemma => kernel_rfl
 ·exact pw25
 ·exact pw26
 ·exact pw27
 ·exact pw28
 ·as_aux_lemma => kernel_rfl
 ·as_aux_lemma => kernel_rfl
 ·as_aux_lemma => kernel_rfl
 ·as_aux_lemma => kernel_rfl
theorem FnExactStoreAct_holds : Rows.FnExactStoreActSaid :=
 OpenClaim.holds_of_wide 8 Tryz.f8 rfl rfl rfl rfl rfl rfl rfl ⟨rfl, rfl, rfl, rfl, rfl⟩ rfl rfl rfl rfl rfl (by kernel_rfl) Tryz.func8 closedFnExactStoreAct
  (of_decide_eq_true (by kernel_rfl)) (by unfold Func.isWrapper; first | (rw [if_pos (by decide +kernel)]; kernel_rfl) | (rw [if_neg (by decide +kernel)]; exact ⟨rfl, rfl⟩))
  (fun os started H enc _ => liftedFnExactStoreAct os started H enc)
end Go.Proofs.YtkafoolhbflfkaaGreatDoor.Vc
end
