/- The row of FnPivotIn. -/
import Derived.Test.YtbbgojaloebknaaVcZN
import Derived.Test.YtbbgojaloebknaaVcPB
namespace Go.Proofs.Ytbbgojaloebknaa.Vc
open Go.Proofs Go.ChangeShapes Go.WideShapes Go.ChangeAt Go.RowKit
open Go.Proofs.Ytbbgojaloebknaa
set_option maxRecDepth 100000 in
theorem liftedFnPivotIn (os : Os) (started : os.Started) (H : Type) (enc : TypeId × Value → H) :
    ReturnsInHanded {} Try.checked os 6 .any (Rows.fnPivotInSpec.pre6 enc Try.prog Try.f6 Rows.fnPivotInRow.domain false) (Rows.fnPivotInSpec.post enc Try.prog Try.f6 false true false false) := by
  refine returnsInHanded_of_change_sized (C := Try.checked) own started (by kernel_rfl) Try.func6
    (ChangeSpec.witness6 (enc := enc) (C := Try.checked) false ⟨#[], #[.slice none 0 0], []⟩ 8 (by kernel_rfl) (by kernel_rfl) (by kernel_rfl) (by kernel_rfl)) ?_
  intro W base args ds gs before hval0 hW hcnd hsz0 _
  have hval : ∀ (j : Nat) t v, Try.f6.params[j]? = some t → args[j]? = some v → Value.okWide Try.prog W .any base t v := hval0
  have hW' := hW
  obtain ⟨p, q, hA0, hV, rfl, hfz, hnd⟩ := hW
  have hA : DataW.TrodAll enc Try.prog W 0 (fun _ => true) true Try.f6.params.toList args.toList ds p := hA0
  rw [Try.params6] at hA hval
  obtain ⟨v0, vs0, d0, ds0, p0, q0, hargs, rfl, rfl, h0, r0⟩ := trodAll_cons hA
  obtain ⟨rfl, rfl, rfl⟩ := trodAll_nil r0
  obtain rfl : args = #[v0] := by cases args; simp_all
  obtain ⟨rfl, rfl⟩ := trodVars_none hV
  have lt0 : ∀ x ∈ p0, x.block < W.heap.size := by obtain ⟨m, hm⟩ := h0; exact DataW.trod_lt m _ _ _ hm
  obtain ⟨m0, l0, k0, e0⟩ := okWide_slice Try.underlying38 (hval 0 38 v0 rfl rfl)
  subst e0
  obtain ⟨x0, a0, b0, c0⟩ : ∃ l : List Int, DR (Rw0 W) W (slB l) (.slice m0 l0 k0) ∧ (∀ n ∈ l, u8r n) ∧ l.length < 9223372036854775808 := by
    obtain ⟨fuel, hf⟩ := h0
    exact op_bytes Try.underlying38 Try.underlying5 (by kernel_rfl) hf
  refine (Fits.below F6 (us := [slB x0]) (b := true) ⟨x0, ?_, ⟨b0, c0⟩, rfl⟩ ⟨rfl, fun j hj => ?_⟩).mono fun e W' ⟨he, bel⟩ => ?_
  · repeat' ((conv => whnf); first | with_reducible exact True.intro | exact vW | with_reducible refine And.intro ?_ ?_)
  · match j, hj with
    | 0, _ => exact .data a0
  subst he
  exact ⟨_, rfl, _, _, _, [], _, [], hW', trodAll_mk1 (shut_bool Try.underlying4 _), (trodAll_cons_mk (Below.trod laidOut (by kernel_rfl) (of_decide_eq_true (by kernel_rfl)) h0 bel lt0) trodAll_mk0), rfl, bel.frame _, fun h => by cases h⟩
theorem overFnPivotIn : Rows.fnPivotInRow.holds Try.pinned (OpenSpec.ofChange Rows.fnPivotInSpec) :=
  OpenClaim.holds_of_wide 6 Try.f6 rfl rfl rfl rfl rfl rfl rfl ⟨rfl, rfl, rfl, rfl, rfl⟩ rfl rfl rfl rfl rfl (by kernel_rfl) Try.func6 (by kernel_rfl)
    (of_decide_eq_true (by kernel_rfl)) (by unfold Func.isWrapper; first | (rw [if_pos (by decide +kernel)]; kernel_rfl) | (rw [if_neg (by decide +kernel)]; exact ⟨rfl, rfl⟩))
    (fun os started H enc _ => liftedFnPivotIn os started H enc)
theorem FnPivotIn_holds : Rows.FnPivotInSaid := overFnPivotIn
end Go.Proofs.Ytbbgojaloebknaa.Vc
