/- Part ZI: the row of FnExactPivotIn. -/
import Derived.Test.YtbbgojaloebknaaVcZH
import Derived.Test.YtbbgojaloebknaaRows
namespace Go.Proofs.Ytbbgojaloebknaa.Vc
open Go.Proofs Go.ChangeShapes Go.WideShapes Go.ChangeAt Go.RowKit
open Go.Proofs.Ytbbgojaloebknaa
theorem own : ownKnob Try.prog.godebug = none := by kernel_rfl
theorem laidOut : laidOutB Try.prog = true := by kernel_rfl
/-- A contract, as a call of ours that leaves all that was there. -/
theorem Fits.below {P : Program} {f : FuncId} {C : List AV → (AV → Prop) → Prop} (hF : Fits P [] f C) {us : List AV} {b : Bool} (h : C us fun r => r = .bool b) {w : World} {xs : Array Value} (ha : ArgsV (Rw0 w) w us xs) :
    Calls P f xs w fun e w' => e = .returned (.bool b) ∧ Below w.heap.size w w' :=
  (hF.ok us _ h (Rw0 w) w xs ⟨fun _ h => h, fun p hp => (by cases hp)⟩ ha).mono fun e w' he => by
    obtain ⟨r, x, R', rfl, rfl, hv, hA⟩ := he
    cases hv with
    | data hd => cases hd; exact ⟨rfl, hA.os, hA.tape, hA.output, hA.size, hA.same⟩
set_option maxRecDepth 100000 in
theorem lifted (os : Os) (started : os.Started) (H : Type) (enc : TypeId × Value → H) :
    ReturnsInHanded {} Try.checked os 3 .any (Rows.fnExactPivotInSpec.pre6 enc Try.prog Try.f3 Rows.fnExactPivotInRow.domain false) (Rows.fnExactPivotInSpec.post enc Try.prog Try.f3 false true false false) := by
  refine returnsInHanded_of_change_sized (C := Try.checked) own started (by kernel_rfl) Try.func3
    (ChangeSpec.witness6 (enc := enc) (C := Try.checked) false ⟨#[], #[.agg #[.int .i64 0, .slice none 0 0], .slice none 0 0, .slice none 0 0], []⟩ 8 (by kernel_rfl) (by kernel_rfl) (by kernel_rfl) (by kernel_rfl)) ?_
  intro W base args ds gs before hval0 hW hcnd hsz0 _
  have hval : ∀ (j : Nat) t v, Try.f3.params[j]? = some t → args[j]? = some v → Value.okWide Try.prog W .any base t v := hval0
  have hW' := hW
  obtain ⟨p, q, hA0, hV, rfl, hfz, hnd⟩ := hW
  have hA : DataW.TrodAll enc Try.prog W 0 (fun _ => true) true Try.f3.params.toList args.toList ds p := hA0
  rw [Try.params3] at hA hval
  obtain ⟨v0, vs0, d0, ds0, p0, q0, hargs, rfl, rfl, h0, r0⟩ := trodAll_cons hA
  obtain ⟨v1, vs1, d1, ds1, p1, q1, rfl, rfl, rfl, h1, r1⟩ := trodAll_cons r0
  obtain ⟨v2, vs2, d2, ds2, p2, q2, rfl, rfl, rfl, h2, r2⟩ := trodAll_cons r1
  obtain ⟨rfl, rfl, rfl⟩ := trodAll_nil r2
  obtain rfl : args = #[v0, v1, v2] := by cases args; simp_all
  obtain ⟨rfl, rfl⟩ := trodVars_none hV
  have lt0 : ∀ x ∈ p0, x.block < W.heap.size := by obtain ⟨m, hm⟩ := h0; exact DataW.trod_lt m _ _ _ hm
  have lt1 : ∀ x ∈ p1, x.block < W.heap.size := by obtain ⟨m, hm⟩ := h1; exact DataW.trod_lt m _ _ _ hm
  have lt2 : ∀ x ∈ p2, x.block < W.heap.size := by obtain ⟨m, hm⟩ := h2; exact DataW.trod_lt m _ _ _ hm
  obtain ⟨h, a1, a2, a3⟩ := op_house Try.underlying24 (by kernel_rfl) rfl rfl Try.underlying3 (by kernel_rfl) Try.underlying22 (by kernel_rfl) Try.underlying3 (by kernel_rfl) (hval 0 24 v0 rfl rfl) h0
  obtain ⟨m1, l1, c1, e1⟩ := okWide_slice Try.underlying25 (hval 1 25 v1 rfl rfl)
  obtain ⟨m2, l2, c2, e2⟩ := okWide_slice Try.underlying22 (hval 2 22 v2 rfl rfl)
  subst e1 e2
  obtain ⟨t, b1, b2, b3⟩ : ∃ l : List Mark, DR (Rw0 W) W (slM l) (.slice m1 l1 c1) ∧ (∀ m ∈ l, m.i64) ∧ l.length < 9223372036854775808 := by
    obtain ⟨fuel, hf⟩ := h1
    exact op_marks Try.underlying25 Try.underlying59 (by kernel_rfl) rfl rfl rfl Try.underlying3 Try.underlying3 Try.underlying3 (by kernel_rfl) (by kernel_rfl) (by kernel_rfl) hf
  obtain ⟨o, g1, g2, g3⟩ : ∃ l : List Int, DR (Rw0 W) W (slI l) (.slice m2 l2 c2) ∧ (∀ n ∈ l, i64r n) ∧ l.length < 9223372036854775808 := by
    obtain ⟨fuel, hf⟩ := h2
    exact op_ints Try.underlying22 Try.underlying3 (by kernel_rfl) hf
  refine (Fits.below F3 (us := [enH h, slM t, slI o]) (b := true) ⟨⟨h, t, o⟩, ?_, ⟨a2, b2, g2, a3, b3, g3⟩, rfl⟩ ⟨rfl, fun j hj => ?_⟩).mono fun e W' ⟨he, bel⟩ => ?_
  · repeat' ((conv => whnf); first
      | with_reducible exact True.intro
      | ((with_reducible refine Chk.mk ?_); focus (first | exact trivial | exact rfl | exact ⟨rfl, fun _ _ => rfl⟩ | exact ⟨rfl, rfl⟩ | omega | assumption | (refine ⟨?_, ?_⟩ <;> omega) | (refine ⟨?_, ?_, apnd ?_ ?_⟩; (focus omega); (focus omega); (focus decide); (focus omega)) | (refine ⟨?_, apnd ?_ ?_⟩; (focus omega); (focus decide); (focus omega)) | (refine ⟨?_, ?_⟩; (focus omega); (focus exact trivial)) | (simp <;> fail)))
      | with_reducible refine And.intro ?_ ?_)
  · match j, hj with
    | 0, _ => exact a1
    | 1, _ => exact .data b1
    | 2, _ => exact .data g1
  subst he
  exact ⟨_, rfl, _, _, _, [], _, [], hW', trodAll_mk1 (shut_bool Try.underlying4 _), (trodAll_cons_mk (Below.trod laidOut (by kernel_rfl) (of_decide_eq_true (by kernel_rfl)) h0 bel lt0) (trodAll_cons_mk (Below.trod laidOut (by kernel_rfl) (of_decide_eq_true (by kernel_rfl)) h1 bel lt1) (trodAll_cons_mk (Below.trod laidOut (by kernel_rfl) (of_decide_eq_true (by kernel_rfl)) h2 bel lt2) trodAll_mk0))), rfl, bel.frame _, fun h => by cases h⟩
theorem over : Rows.fnExactPivotInRow.holds Try.pinned (OpenSpec.ofChange Rows.fnExactPivotInSpec) :=
  OpenClaim.holds_of_wide 3 Try.f3 rfl rfl rfl rfl rfl rfl rfl ⟨rfl, rfl, rfl, rfl, rfl⟩ rfl rfl rfl rfl rfl (by kernel_rfl) Try.func3 (by kernel_rfl)
    (of_decide_eq_true (by kernel_rfl)) (by unfold Func.isWrapper; first | (rw [if_pos (by decide +kernel)]; kernel_rfl) | (rw [if_neg (by decide +kernel)]; exact ⟨rfl, rfl⟩))
    (fun os started H enc _ => lifted os started H enc)
theorem FnExactPivotIn_holds : Rows.FnExactPivotInSaid := over
end Go.Proofs.Ytbbgojaloebknaa.Vc
