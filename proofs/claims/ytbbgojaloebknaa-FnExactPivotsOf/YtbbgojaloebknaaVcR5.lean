/- The row of FnExactPivotsOf. -/
import Derived.Test.YtbbgojaloebknaaVcZN
import Derived.Test.YtbbgojaloebknaaVcZM
namespace Go.Proofs.Ytbbgojaloebknaa.Vc
open Go.Proofs Go.ChangeShapes Go.WideShapes Go.ChangeAt Go.RowKit
open Go.Proofs.Ytbbgojaloebknaa
set_option maxRecDepth 100000 in
theorem liftedFnExactPivotsOf (os : Os) (started : os.Started) (H : Type) (enc : TypeId × Value → H) :
    ReturnsInHanded {} Try.checked os 5 .any (Rows.fnExactPivotsOfSpec.pre6 enc Try.prog Try.f5 Rows.fnExactPivotsOfRow.domain false) (Rows.fnExactPivotsOfSpec.post enc Try.prog Try.f5 false true false false) := by
  refine returnsInHanded_of_change_sized (C := Try.checked) own started (by kernel_rfl) Try.func5
    (ChangeSpec.witness6 (enc := enc) (C := Try.checked) false ⟨#[], #[.agg #[.int .i64 0, .slice none 0 0], .slice none 0 0, .int .i64 0], []⟩ 8 (by kernel_rfl) (by kernel_rfl) (by kernel_rfl) (by kernel_rfl)) ?_
  intro W base args ds gs before hval0 hW hcnd hsz0 _
  have hval : ∀ (j : Nat) t v, Try.f5.params[j]? = some t → args[j]? = some v → Value.okWide Try.prog W .any base t v := hval0
  have hW' := hW
  obtain ⟨p, q, hA0, hV, rfl, hfz, hnd⟩ := hW
  have hA : DataW.TrodAll enc Try.prog W 0 (fun _ => true) true Try.f5.params.toList args.toList ds p := hA0
  rw [Try.params5] at hA hval
  obtain ⟨v0, vs0, d0, ds0, p0, q0, hargs, rfl, rfl, h0, r0⟩ := trodAll_cons hA
  obtain ⟨v1, vs1, d1, ds1, p1, q1, rfl, rfl, rfl, h1, r1⟩ := trodAll_cons r0
  obtain ⟨v2, vs2, d2, ds2, p2, q2, rfl, rfl, rfl, h2, r2⟩ := trodAll_cons r1
  obtain ⟨rfl, rfl, rfl⟩ := trodAll_nil r2
  obtain rfl : args = #[v0, v1, v2] := by cases args; simp_all
  obtain ⟨rfl, rfl⟩ := trodVars_none hV
  have lt0 : ∀ x ∈ p0, x.block < W.heap.size := by obtain ⟨m, hm⟩ := h0; exact DataW.trod_lt m _ _ _ hm
  have lt1 : ∀ x ∈ p1, x.block < W.heap.size := by obtain ⟨m, hm⟩ := h1; exact DataW.trod_lt m _ _ _ hm
  have lt2 : ∀ x ∈ p2, x.block < W.heap.size := by obtain ⟨m, hm⟩ := h2; exact DataW.trod_lt m _ _ _ hm
  obtain ⟨x0, a0, b0, c0⟩ := op_house Try.underlying24 (by kernel_rfl) rfl rfl Try.underlying3 (by kernel_rfl) Try.underlying22 (by kernel_rfl) Try.underlying3 (by kernel_rfl) (hval 0 24 v0 rfl rfl) h0
  obtain ⟨m1, l1, k1, e1⟩ := okWide_slice Try.underlying25 (hval 1 25 v1 rfl rfl)
  subst e1
  obtain ⟨x1, a1, b1, c1⟩ : ∃ l : List Mark, DR (Rw0 W) W (slM l) (.slice m1 l1 k1) ∧ (∀ m ∈ l, m.i64) ∧ l.length < 9223372036854775808 := by
    obtain ⟨fuel, hf⟩ := h1
    exact op_marks Try.underlying25 Try.underlying59 (by kernel_rfl) rfl rfl rfl Try.underlying3 Try.underlying3 Try.underlying3 (by kernel_rfl) (by kernel_rfl) (by kernel_rfl) hf
  obtain ⟨x2, rfl, b2⟩ := op_int Try.underlying3 (hval 2 3 v2 rfl rfl) h2
  refine (Fits.below F5 (us := [enH x0, slM x1, .int .i64 x2]) (b := true) ⟨⟨x0, x1, x2⟩, ?_, ⟨⟨b0, c0, b1, c1⟩, b2⟩, rfl⟩ ⟨rfl, fun j hj => ?_⟩).mono fun e W' ⟨he, bel⟩ => ?_
  · repeat' ((conv => whnf); first
      | with_reducible exact True.intro
      | ((with_reducible refine Chk.mk ?_); focus (first | exact trivial | exact rfl | exact ⟨rfl, fun _ _ => rfl⟩ | exact ⟨rfl, rfl⟩ | omega | assumption | (refine ⟨?_, ?_⟩ <;> omega) | (refine ⟨?_, ?_, apnd ?_ ?_⟩; (focus omega); (focus omega); (focus decide); (focus omega)) | (refine ⟨?_, apnd ?_ ?_⟩; (focus omega); (focus decide); (focus omega)) | (refine ⟨?_, ?_⟩; (focus omega); (focus exact trivial)) | (simp <;> fail)))
      | with_reducible refine And.intro ?_ ?_)
  · match j, hj with
    | 0, _ => exact a0
    | 1, _ => exact .data a1
    | 2, _ => exact .data (.int _ _)
  subst he
  exact ⟨_, rfl, _, _, _, [], _, [], hW', trodAll_mk1 (shut_bool Try.underlying4 _), (trodAll_cons_mk (Below.trod laidOut (by kernel_rfl) (of_decide_eq_true (by kernel_rfl)) h0 bel lt0) (trodAll_cons_mk (Below.trod laidOut (by kernel_rfl) (of_decide_eq_true (by kernel_rfl)) h1 bel lt1) (trodAll_cons_mk (Below.trod laidOut (by kernel_rfl) (of_decide_eq_true (by kernel_rfl)) h2 bel lt2) trodAll_mk0))), rfl, bel.frame _, fun h => by cases h⟩
theorem overFnExactPivotsOf : Rows.fnExactPivotsOfRow.holds Try.pinned (OpenSpec.ofChange Rows.fnExactPivotsOfSpec) :=
  OpenClaim.holds_of_wide 5 Try.f5 rfl rfl rfl rfl rfl rfl rfl ⟨rfl, rfl, rfl, rfl, rfl⟩ rfl rfl rfl rfl rfl (by kernel_rfl) Try.func5 (by kernel_rfl)
    (of_decide_eq_true (by kernel_rfl)) (by unfold Func.isWrapper; first | (rw [if_pos (by decide +kernel)]; kernel_rfl) | (rw [if_neg (by decide +kernel)]; exact ⟨rfl, rfl⟩))
    (fun os started H enc _ => liftedFnExactPivotsOf os started H enc)
theorem FnExactPivotsOf_holds : Rows.FnExactPivotsOfSaid := overFnExactPivotsOf
end Go.Proofs.Ytbbgojaloebknaa.Vc
