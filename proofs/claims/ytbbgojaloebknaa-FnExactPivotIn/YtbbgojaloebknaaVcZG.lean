/- Part ZG: the law FnExactPivotIn. -/
import Derived.Test.YtbbgojaloebknaaVcZF
namespace Go.Proofs.Ytbbgojaloebknaa.Vc
open Go.Proofs
set_option maxRecDepth 10000
set_option maxHeartbeats 4000000
def C3 : List AV → (AV → Prop) → Prop := con (X := Px) (fun x => [enH x.h, slM x.t, slI x.l]) (fun x => x.h.i64 ∧ (∀ m ∈ x.t, m.i64) ∧ (∀ w ∈ x.l, i64r w) ∧ x.h.bs.length < 9223372036854775808 ∧ x.t.length < 9223372036854775808 ∧ x.l.length < 9223372036854775808) fun _ K => K (.bool true)
theorem F3 : FF 3 C3 := by
  refine fitE [(9, C9), (10, C10), (11, C11), (12, C12), (13, C13), (14, C14), (15, C15), (16, C16), (17, C17), (18, C18)] (by simp only [List.mem_cons, List.not_mem_nil, or_false]; rintro _ (rfl | rfl | rfl | rfl | rfl | rfl | rfl | rfl | rfl | rfl) <;> first | exact F9 | exact F10 | exact F11 | exact F12 | exact F13 | exact F14 | exact F15 | exact F16 | exact F17 | exact F18) Try.f3 ⟨rfl, by decide +kernel, by decide +kernel⟩ (fun _ _ _ hk h => hk _ h) ?_
  rintro ⟨⟨p, bs⟩, t, l⟩ K ⟨h1, h2, h3, h4, h5, h6⟩ h
  refine ⟨Nat.le_of_ble_eq_true rfl, ?_⟩
  dsimp only at h1 h2 h3 h4 h5 h6 h ⊢
  repeat' ((conv => whnf); first
    | with_reducible refine Sq.d ?_
    | with_reducible refine Wk.rf ?_
    | ((with_reducible refine And.intro (Chk.mk ?_) ?_); focus (first | exact trivial | exact rfl | exact ⟨rfl, fun _ _ => rfl⟩ | exact ⟨rfl, rfl⟩ | omega | assumption | (refine ⟨?_, ?_⟩ <;> omega) | (refine ⟨?_, ?_, apnd ?_ ?_⟩; (focus omega); (focus omega); (focus decide); (focus omega)) | (refine ⟨?_, apnd ?_ ?_⟩; (focus omega); (focus decide); (focus omega)) | (refine ⟨?_, ?_⟩; (focus omega); (focus exact trivial)) | (simp <;> fail)))
    | ((with_reducible refine Wr.ex (wi64 ?_ ?_) ?_); (focus omega); (focus omega))
    | with_reducible refine br_nt ?_
    | with_reducible refine br_tt ?_
    | with_reducible refine br_ff ?_
    | with_reducible refine br_hT (by assumption) ?_
    | with_reducible refine br_hF (by assumption) ?_
    | with_reducible refine br_dT (by omega) ?_
    | with_reducible refine br_dF (by omega) ?_
    | with_reducible refine br_dT (by assumption) ?_
    | with_reducible refine br_dF (by assumption) ?_
    | with_reducible refine br_and ?_
    | with_reducible refine br_or ?_
    | with_reducible refine br_d (fun _ => ?_) (fun _ => ?_)
    | with_reducible refine Br.mk (fun _ => ?_) (fun _ => ?_))
  · exact h
  refine ⟨(⟨p, bs⟩, 1048576), ?_, ⟨h4, (by decide : (0 : Int) ≤ 1048576), (by decide : (1048576 : Int) ≤ 9223372036854775807)⟩, ?_⟩
  · repeat' ((conv => whnf); first
      | with_reducible exact True.intro
      | ((with_reducible refine Chk.mk ?_); focus (first | exact trivial | exact rfl | exact ⟨rfl, fun _ _ => rfl⟩ | exact ⟨rfl, rfl⟩ | omega | assumption | (refine ⟨?_, ?_⟩ <;> omega) | (refine ⟨?_, ?_, apnd ?_ ?_⟩; (focus omega); (focus omega); (focus decide); (focus omega)) | (refine ⟨?_, apnd ?_ ?_⟩; (focus omega); (focus decide); (focus omega)) | (refine ⟨?_, ?_⟩; (focus omega); (focus exact trivial)) | (simp <;> fail)))
      | with_reducible refine And.intro ?_ ?_)
  dsimp only
  by_cases hb : (1048576 : Int) - bs.length < 0
  · rw [if_pos hb]
    repeat' ((conv => whnf); first
      | with_reducible refine Sq.d ?_
      | with_reducible refine Wk.rf ?_
      | ((with_reducible refine And.intro (Chk.mk ?_) ?_); focus (first | exact trivial | exact rfl | exact ⟨rfl, fun _ _ => rfl⟩ | exact ⟨rfl, rfl⟩ | omega | assumption | (refine ⟨?_, ?_⟩ <;> omega) | (refine ⟨?_, ?_, apnd ?_ ?_⟩; (focus omega); (focus omega); (focus decide); (focus omega)) | (refine ⟨?_, apnd ?_ ?_⟩; (focus omega); (focus decide); (focus omega)) | (refine ⟨?_, ?_⟩; (focus omega); (focus exact trivial)) | (simp <;> fail)))
      | ((with_reducible refine Wr.ex (wi64 ?_ ?_) ?_); (focus omega); (focus omega))
      | with_reducible refine br_nt ?_
      | with_reducible refine br_tt ?_
      | with_reducible refine br_ff ?_
      | with_reducible refine br_hT (by assumption) ?_
      | with_reducible refine br_hF (by assumption) ?_
      | with_reducible refine br_dT (by omega) ?_
      | with_reducible refine br_dF (by omega) ?_
      | with_reducible refine br_dT (by assumption) ?_
      | with_reducible refine br_dF (by assumption) ?_
      | with_reducible refine br_and ?_
      | with_reducible refine br_or ?_
      | with_reducible refine br_d (fun _ => ?_) (fun _ => ?_)
      | with_reducible refine Br.mk (fun _ => ?_) (fun _ => ?_))
    exact h
  rw [if_neg hb]
  repeat' ((conv => whnf); first
    | with_reducible refine Sq.d ?_
    | with_reducible refine Wk.rf ?_
    | ((with_reducible refine And.intro (Chk.mk ?_) ?_); focus (first | exact trivial | exact rfl | exact ⟨rfl, fun _ _ => rfl⟩ | exact ⟨rfl, rfl⟩ | omega | assumption | (refine ⟨?_, ?_⟩ <;> omega) | (refine ⟨?_, ?_, apnd ?_ ?_⟩; (focus omega); (focus omega); (focus decide); (focus omega)) | (refine ⟨?_, apnd ?_ ?_⟩; (focus omega); (focus decide); (focus omega)) | (refine ⟨?_, ?_⟩; (focus omega); (focus exact trivial)) | (simp <;> fail)))
    | ((with_reducible refine Wr.ex (wi64 ?_ ?_) ?_); (focus omega); (focus omega))
    | with_reducible refine br_nt ?_
    | with_reducible refine br_tt ?_
    | with_reducible refine br_ff ?_
    | with_reducible refine br_hT (by assumption) ?_
    | with_reducible refine br_hF (by assumption) ?_
    | with_reducible refine br_dT (by omega) ?_
    | with_reducible refine br_dF (by omega) ?_
    | with_reducible refine br_dT (by assumption) ?_
    | with_reducible refine br_dF (by assumption) ?_
    | with_reducible refine br_and ?_
    | with_reducible refine br_or ?_
    | with_reducible refine br_d (fun _ => ?_) (fun _ => ?_)
    | with_reducible refine Br.mk (fun _ => ?_) (fun _ => ?_))
  refine ⟨(t, 1048576 - bs.length), ?_, ⟨h5, by show 0 ≤ (1048576 : Int) - bs.length; omega, by show (1048576 : Int) - bs.length ≤ _; omega⟩, ?_⟩
  · repeat' ((conv => whnf); first
      | with_reducible exact True.intro
      | ((with_reducible refine Chk.mk ?_); focus (first | exact trivial | exact rfl | exact ⟨rfl, fun _ _ => rfl⟩ | exact ⟨rfl, rfl⟩ | omega | assumption | (refine ⟨?_, ?_⟩ <;> omega) | (refine ⟨?_, ?_, apnd ?_ ?_⟩; (focus omega); (focus omega); (focus decide); (focus omega)) | (refine ⟨?_, apnd ?_ ?_⟩; (focus omega); (focus decide); (focus omega)) | (refine ⟨?_, ?_⟩; (focus omega); (focus exact trivial)) | (simp <;> fail)))
      | with_reducible refine And.intro ?_ ?_)
  dsimp only
  by_cases ht : (1048576 : Int) - bs.length - t.length < 0
  · rw [if_pos ht]
    repeat' ((conv => whnf); first
      | with_reducible refine Sq.d ?_
      | with_reducible refine Wk.rf ?_
      | ((with_reducible refine And.intro (Chk.mk ?_) ?_); focus (first | exact trivial | exact rfl | exact ⟨rfl, fun _ _ => rfl⟩ | exact ⟨rfl, rfl⟩ | omega | assumption | (refine ⟨?_, ?_⟩ <;> omega) | (refine ⟨?_, ?_, apnd ?_ ?_⟩; (focus omega); (focus omega); (focus decide); (focus omega)) | (refine ⟨?_, apnd ?_ ?_⟩; (focus omega); (focus decide); (focus omega)) | (refine ⟨?_, ?_⟩; (focus omega); (focus exact trivial)) | (simp <;> fail)))
      | ((with_reducible refine Wr.ex (wi64 ?_ ?_) ?_); (focus omega); (focus omega))
      | with_reducible refine br_nt ?_
      | with_reducible refine br_tt ?_
      | with_reducible refine br_ff ?_
      | with_reducible refine br_hT (by assumption) ?_
      | with_reducible refine br_hF (by assumption) ?_
      | with_reducible refine br_dT (by omega) ?_
      | with_reducible refine br_dF (by omega) ?_
      | with_reducible refine br_dT (by assumption) ?_
      | with_reducible refine br_dF (by assumption) ?_
      | with_reducible refine br_and ?_
      | with_reducible refine br_or ?_
      | with_reducible refine br_d (fun _ => ?_) (fun _ => ?_)
      | with_reducible refine Br.mk (fun _ => ?_) (fun _ => ?_))
    exact h
  rw [if_neg ht]
  have b1 : bs.length ≤ 1048576 := by omega
  have b2 : t.length ≤ 1048576 := by omega
  have b3 : l.length ≤ 1048576 := by omega
  have hT : termI ⟨p, bs⟩ t := ⟨h1, h4, h2, h5⟩
  have hl : l.length < 4611686018427387904 := by omega
  repeat' ((conv => whnf); first
    | with_reducible refine Sq.d ?_
    | with_reducible refine Wk.rf ?_
    | ((with_reducible refine And.intro (Chk.mk ?_) ?_); focus (first | exact trivial | exact rfl | exact ⟨rfl, fun _ _ => rfl⟩ | exact ⟨rfl, rfl⟩ | omega | assumption | (refine ⟨?_, ?_⟩ <;> omega) | (refine ⟨?_, ?_, apnd ?_ ?_⟩; (focus omega); (focus omega); (focus decide); (focus omega)) | (refine ⟨?_, apnd ?_ ?_⟩; (focus omega); (focus decide); (focus omega)) | (refine ⟨?_, ?_⟩; (focus omega); (focus exact trivial)) | (simp <;> fail)))
    | ((with_reducible refine Wr.ex (wi64 ?_ ?_) ?_); (focus omega); (focus omega))
    | with_reducible refine br_nt ?_
    | with_reducible refine br_tt ?_
    | with_reducible refine br_ff ?_
    | with_reducible refine br_hT (by assumption) ?_
    | with_reducible refine br_hF (by assumption) ?_
    | with_reducible refine br_dT (by omega) ?_
    | with_reducible refine br_dF (by omega) ?_
    | with_reducible refine br_dT (by assumption) ?_
    | with_reducible refine br_dF (by assumption) ?_
    | with_reducible refine br_and ?_
    | with_reducible refine br_or ?_
    | with_reducible refine br_d (fun _ => ?_) (fun _ => ?_)
    | with_reducible refine Br.mk (fun _ => ?_) (fun _ => ?_))
  refine ⟨⟨p, bs⟩, ?_, ⟨b1⟩, ?_⟩
  · repeat' ((conv => whnf); first
      | with_reducible exact True.intro
      | ((with_reducible refine Chk.mk ?_); focus (first | exact trivial | exact rfl | exact ⟨rfl, fun _ _ => rfl⟩ | exact ⟨rfl, rfl⟩ | omega | assumption | (refine ⟨?_, ?_⟩ <;> omega) | (refine ⟨?_, ?_, apnd ?_ ?_⟩; (focus omega); (focus omega); (focus decide); (focus omega)) | (refine ⟨?_, apnd ?_ ?_⟩; (focus omega); (focus decide); (focus omega)) | (refine ⟨?_, ?_⟩; (focus omega); (focus exact trivial)) | (simp <;> fail)))
      | with_reducible refine And.intro ?_ ?_)
  repeat' ((conv => whnf); first
    | with_reducible refine Sq.d ?_
    | with_reducible refine Wk.rf ?_
    | ((with_reducible refine And.intro (Chk.mk ?_) ?_); focus (first | exact trivial | exact rfl | exact ⟨rfl, fun _ _ => rfl⟩ | exact ⟨rfl, rfl⟩ | omega | assumption | (refine ⟨?_, ?_⟩ <;> omega) | (refine ⟨?_, ?_, apnd ?_ ?_⟩; (focus omega); (focus omega); (focus decide); (focus omega)) | (refine ⟨?_, apnd ?_ ?_⟩; (focus omega); (focus decide); (focus omega)) | (refine ⟨?_, ?_⟩; (focus omega); (focus exact trivial)) | (simp <;> fail)))
    | ((with_reducible refine Wr.ex (wi64 ?_ ?_) ?_); (focus omega); (focus omega))
    | with_reducible refine br_nt ?_
    | with_reducible refine br_tt ?_
    | with_reducible refine br_ff ?_
    | with_reducible refine br_hT (by assumption) ?_
    | with_reducible refine br_hF (by assumption) ?_
    | with_reducible refine br_dT (by omega) ?_
    | with_reducible refine br_dF (by omega) ?_
    | with_reducible refine br_dT (by assumption) ?_
    | with_reducible refine br_dF (by assumption) ?_
    | with_reducible refine br_and ?_
    | with_reducible refine br_or ?_
    | with_reducible refine br_d (fun _ => ?_) (fun _ => ?_)
    | with_reducible refine Br.mk (fun _ => ?_) (fun _ => ?_))
  refine ⟨t, ?_, ⟨b2⟩, ?_⟩
  · repeat' ((conv => whnf); first
      | with_reducible exact True.intro
      | ((with_reducible refine Chk.mk ?_); focus (first | exact trivial | exact rfl | exact ⟨rfl, fun _ _ => rfl⟩ | exact ⟨rfl, rfl⟩ | omega | assumption | (refine ⟨?_, ?_⟩ <;> omega) | (refine ⟨?_, ?_, apnd ?_ ?_⟩; (focus omega); (focus omega); (focus decide); (focus omega)) | (refine ⟨?_, apnd ?_ ?_⟩; (focus omega); (focus decide); (focus omega)) | (refine ⟨?_, ?_⟩; (focus omega); (focus exact trivial)) | (simp <;> fail)))
      | with_reducible refine And.intro ?_ ?_)
  repeat' ((conv => whnf); first
    | with_reducible refine Sq.d ?_
    | with_reducible refine Wk.rf ?_
    | ((with_reducible refine And.intro (Chk.mk ?_) ?_); focus (first | exact trivial | exact rfl | exact ⟨rfl, fun _ _ => rfl⟩ | exact ⟨rfl, rfl⟩ | omega | assumption | (refine ⟨?_, ?_⟩ <;> omega) | (refine ⟨?_, ?_, apnd ?_ ?_⟩; (focus omega); (focus omega); (focus decide); (focus omega)) | (refine ⟨?_, apnd ?_ ?_⟩; (focus omega); (focus decide); (focus omega)) | (refine ⟨?_, ?_⟩; (focus omega); (focus exact trivial)) | (simp <;> fail)))
    | ((with_reducible refine Wr.ex (wi64 ?_ ?_) ?_); (focus omega); (focus omega))
    | with_reducible refine br_nt ?_
    | with_reducible refine br_tt ?_
    | with_reducible refine br_ff ?_
    | with_reducible refine br_hT (by assumption) ?_
    | with_reducible refine br_hF (by assumption) ?_
    | with_reducible refine br_dT (by omega) ?_
    | with_reducible refine br_dF (by omega) ?_
    | with_reducible refine br_dT (by assumption) ?_
    | with_reducible refine br_dF (by assumption) ?_
    | with_reducible refine br_and ?_
    | with_reducible refine br_or ?_
    | with_reducible refine br_d (fun _ => ?_) (fun _ => ?_)
    | with_reducible refine Br.mk (fun _ => ?_) (fun _ => ?_))
  refine ⟨l, ?_, ⟨b3⟩, ?_⟩
  · repeat' ((conv => whnf); first
      | with_reducible exact True.intro
      | ((with_reducible refine Chk.mk ?_); focus (first | exact trivial | exact rfl | exact ⟨rfl, fun _ _ => rfl⟩ | exact ⟨rfl, rfl⟩ | omega | assumption | (refine ⟨?_, ?_⟩ <;> omega) | (refine ⟨?_, ?_, apnd ?_ ?_⟩; (focus omega); (focus omega); (focus decide); (focus omega)) | (refine ⟨?_, apnd ?_ ?_⟩; (focus omega); (focus decide); (focus omega)) | (refine ⟨?_, ?_⟩; (focus omega); (focus exact trivial)) | (simp <;> fail)))
      | with_reducible refine And.intro ?_ ?_)
  repeat' ((conv => whnf); first
    | with_reducible refine Sq.d ?_
    | with_reducible refine Wk.rf ?_
    | ((with_reducible refine And.intro (Chk.mk ?_) ?_); focus (first | exact trivial | exact rfl | exact ⟨rfl, fun _ _ => rfl⟩ | exact ⟨rfl, rfl⟩ | omega | assumption | (refine ⟨?_, ?_⟩ <;> omega) | (refine ⟨?_, ?_, apnd ?_ ?_⟩; (focus omega); (focus omega); (focus decide); (focus omega)) | (refine ⟨?_, apnd ?_ ?_⟩; (focus omega); (focus decide); (focus omega)) | (refine ⟨?_, ?_⟩; (focus omega); (focus exact trivial)) | (simp <;> fail)))
    | ((with_reducible refine Wr.ex (wi64 ?_ ?_) ?_); (focus omega); (focus omega))
    | with_reducible refine br_nt ?_
    | with_reducible refine br_tt ?_
    | with_reducible refine br_ff ?_
    | with_reducible refine br_hT (by assumption) ?_
    | with_reducible refine br_hF (by assumption) ?_
    | with_reducible refine br_dT (by omega) ?_
    | with_reducible refine br_dF (by omega) ?_
    | with_reducible refine br_dT (by assumption) ?_
    | with_reducible refine br_dF (by assumption) ?_
    | with_reducible refine br_and ?_
    | with_reducible refine br_or ?_
    | with_reducible refine br_d (fun _ => ?_) (fun _ => ?_)
    | with_reducible refine Br.mk (fun _ => ?_) (fun _ => ?_))
  refine ⟨⟨⟨p, bs⟩, t, l⟩, ?_, ⟨hT, h3, hl⟩, ?_⟩
  · repeat' ((conv => whnf); first
      | with_reducible exact True.intro
      | ((with_reducible refine Chk.mk ?_); focus (first | exact trivial | exact rfl | exact ⟨rfl, fun _ _ => rfl⟩ | exact ⟨rfl, rfl⟩ | omega | assumption | (refine ⟨?_, ?_⟩ <;> omega) | (refine ⟨?_, ?_, apnd ?_ ?_⟩; (focus omega); (focus omega); (focus decide); (focus omega)) | (refine ⟨?_, apnd ?_ ?_⟩; (focus omega); (focus decide); (focus omega)) | (refine ⟨?_, ?_⟩; (focus omega); (focus exact trivial)) | (simp <;> fail)))
      | with_reducible refine And.intro ?_ ?_)
  dsimp only
  obtain ⟨v, hv⟩ : ∃ v, pivotIn ⟨p, bs⟩ t l = v := ⟨_, rfl⟩
  rw [hv]
  repeat' ((conv => whnf); first
    | with_reducible refine Sq.d ?_
    | with_reducible refine Wk.rf ?_
    | ((with_reducible refine And.intro (Chk.mk ?_) ?_); focus (first | exact trivial | exact rfl | exact ⟨rfl, fun _ _ => rfl⟩ | exact ⟨rfl, rfl⟩ | omega | assumption | (refine ⟨?_, ?_⟩ <;> omega) | (refine ⟨?_, ?_, apnd ?_ ?_⟩; (focus omega); (focus omega); (focus decide); (focus omega)) | (refine ⟨?_, apnd ?_ ?_⟩; (focus omega); (focus decide); (focus omega)) | (refine ⟨?_, ?_⟩; (focus omega); (focus exact trivial)) | (simp <;> fail)))
    | ((with_reducible refine Wr.ex (wi64 ?_ ?_) ?_); (focus omega); (focus omega))
    | with_reducible refine br_nt ?_
    | with_reducible refine br_tt ?_
    | with_reducible refine br_ff ?_
    | with_reducible refine br_hT (by assumption) ?_
    | with_reducible refine br_hF (by assumption) ?_
    | with_reducible refine br_dT (by omega) ?_
    | with_reducible refine br_dF (by omega) ?_
    | with_reducible refine br_dT (by assumption) ?_
    | with_reducible refine br_dF (by assumption) ?_
    | with_reducible refine br_and ?_
    | with_reducible refine br_or ?_
    | with_reducible refine br_d (fun _ => ?_) (fun _ => ?_)
    | with_reducible refine Br.mk (fun _ => ?_) (fun _ => ?_))
  refine ⟨⟨p, bs⟩, ?_, ⟨b1⟩, ?_⟩
  · repeat' ((conv => whnf); first
      | with_reducible exact True.intro
      | ((with_reducible refine Chk.mk ?_); focus (first | exact trivial | exact rfl | exact ⟨rfl, fun _ _ => rfl⟩ | exact ⟨rfl, rfl⟩ | omega | assumption | (refine ⟨?_, ?_⟩ <;> omega) | (refine ⟨?_, ?_, apnd ?_ ?_⟩; (focus omega); (focus omega); (focus decide); (focus omega)) | (refine ⟨?_, apnd ?_ ?_⟩; (focus omega); (focus decide); (focus omega)) | (refine ⟨?_, ?_⟩; (focus omega); (focus exact trivial)) | (simp <;> fail)))
      | with_reducible refine And.intro ?_ ?_)
  repeat' ((conv => whnf); first
    | with_reducible refine Sq.d ?_
    | with_reducible refine Wk.rf ?_
    | ((with_reducible refine And.intro (Chk.mk ?_) ?_); focus (first | exact trivial | exact rfl | exact ⟨rfl, fun _ _ => rfl⟩ | exact ⟨rfl, rfl⟩ | omega | assumption | (refine ⟨?_, ?_⟩ <;> omega) | (refine ⟨?_, ?_, apnd ?_ ?_⟩; (focus omega); (focus omega); (focus decide); (focus omega)) | (refine ⟨?_, apnd ?_ ?_⟩; (focus omega); (focus decide); (focus omega)) | (refine ⟨?_, ?_⟩; (focus omega); (focus exact trivial)) | (simp <;> fail)))
    | ((with_reducible refine Wr.ex (wi64 ?_ ?_) ?_); (focus omega); (focus omega))
    | with_reducible refine br_nt ?_
    | with_reducible refine br_tt ?_
    | with_reducible refine br_ff ?_
    | with_reducible refine br_hT (by assumption) ?_
    | with_reducible refine br_hF (by assumption) ?_
    | with_reducible refine br_dT (by omega) ?_
    | with_reducible refine br_dF (by omega) ?_
    | with_reducible refine br_dT (by assumption) ?_
    | with_reducible refine br_dF (by assumption) ?_
    | with_reducible refine br_and ?_
    | with_reducible refine br_or ?_
    | with_reducible refine br_d (fun _ => ?_) (fun _ => ?_)
    | with_reducible refine Br.mk (fun _ => ?_) (fun _ => ?_))
  refine ⟨t, ?_, ⟨b2⟩, ?_⟩
  · repeat' ((conv => whnf); first
      | with_reducible exact True.intro
      | ((with_reducible refine Chk.mk ?_); focus (first | exact trivial | exact rfl | exact ⟨rfl, fun _ _ => rfl⟩ | exact ⟨rfl, rfl⟩ | omega | assumption | (refine ⟨?_, ?_⟩ <;> omega) | (refine ⟨?_, ?_, apnd ?_ ?_⟩; (focus omega); (focus omega); (focus decide); (focus omega)) | (refine ⟨?_, apnd ?_ ?_⟩; (focus omega); (focus decide); (focus omega)) | (refine ⟨?_, ?_⟩; (focus omega); (focus exact trivial)) | (simp <;> fail)))
      | with_reducible refine And.intro ?_ ?_)
  repeat' ((conv => whnf); first
    | with_reducible refine Sq.d ?_
    | with_reducible refine Wk.rf ?_
    | ((with_reducible refine And.intro (Chk.mk ?_) ?_); focus (first | exact trivial | exact rfl | exact ⟨rfl, fun _ _ => rfl⟩ | exact ⟨rfl, rfl⟩ | omega | assumption | (refine ⟨?_, ?_⟩ <;> omega) | (refine ⟨?_, ?_, apnd ?_ ?_⟩; (focus omega); (focus omega); (focus decide); (focus omega)) | (refine ⟨?_, apnd ?_ ?_⟩; (focus omega); (focus decide); (focus omega)) | (refine ⟨?_, ?_⟩; (focus omega); (focus exact trivial)) | (simp <;> fail)))
    | ((with_reducible refine Wr.ex (wi64 ?_ ?_) ?_); (focus omega); (focus omega))
    | with_reducible refine br_nt ?_
    | with_reducible refine br_tt ?_
    | with_reducible refine br_ff ?_
    | with_reducible refine br_hT (by assumption) ?_
    | with_reducible refine br_hF (by assumption) ?_
    | with_reducible refine br_dT (by omega) ?_
    | with_reducible refine br_dF (by omega) ?_
    | with_reducible refine br_dT (by assumption) ?_
    | with_reducible refine br_dF (by assumption) ?_
    | with_reducible refine br_and ?_
    | with_reducible refine br_or ?_
    | with_reducible refine br_d (fun _ => ?_) (fun _ => ?_)
    | with_reducible refine Br.mk (fun _ => ?_) (fun _ => ?_))
  refine ⟨l, ?_, ⟨b3⟩, ?_⟩
  · repeat' ((conv => whnf); first
      | with_reducible exact True.intro
      | ((with_reducible refine Chk.mk ?_); focus (first | exact trivial | exact rfl | exact ⟨rfl, fun _ _ => rfl⟩ | exact ⟨rfl, rfl⟩ | omega | assumption | (refine ⟨?_, ?_⟩ <;> omega) | (refine ⟨?_, ?_, apnd ?_ ?_⟩; (focus omega); (focus omega); (focus decide); (focus omega)) | (refine ⟨?_, apnd ?_ ?_⟩; (focus omega); (focus decide); (focus omega)) | (refine ⟨?_, ?_⟩; (focus omega); (focus exact trivial)) | (simp <;> fail)))
      | with_reducible refine And.intro ?_ ?_)
  repeat' ((conv => whnf); first
    | with_reducible refine Sq.d ?_
    | with_reducible refine Wk.rf ?_
    | ((with_reducible refine And.intro (Chk.mk ?_) ?_); focus (first | exact trivial | exact rfl | exact ⟨rfl, fun _ _ => rfl⟩ | exact ⟨rfl, rfl⟩ | omega | assumption | (refine ⟨?_, ?_⟩ <;> omega) | (refine ⟨?_, ?_, apnd ?_ ?_⟩; (focus omega); (focus omega); (focus decide); (focus omega)) | (refine ⟨?_, apnd ?_ ?_⟩; (focus omega); (focus decide); (focus omega)) | (refine ⟨?_, ?_⟩; (focus omega); (focus exact trivial)) | (simp <;> fail)))
    | ((with_reducible refine Wr.ex (wi64 ?_ ?_) ?_); (focus omega); (focus omega))
    | with_reducible refine br_nt ?_
    | with_reducible refine br_tt ?_
    | with_reducible refine br_ff ?_
    | with_reducible refine br_hT (by assumption) ?_
    | with_reducible refine br_hF (by assumption) ?_
    | with_reducible refine br_dT (by omega) ?_
    | with_reducible refine br_dF (by omega) ?_
    | with_reducible refine br_dT (by assumption) ?_
    | with_reducible refine br_dF (by assumption) ?_
    | with_reducible refine br_and ?_
    | with_reducible refine br_or ?_
    | with_reducible refine br_d (fun _ => ?_) (fun _ => ?_)
    | with_reducible refine Br.mk (fun _ => ?_) (fun _ => ?_))
  refine ⟨⟨⟨p, bs⟩, t, l⟩, ?_, ⟨hT, h3, hl⟩, ?_⟩
  · repeat' ((conv => whnf); first
      | with_reducible exact True.intro
      | ((with_reducible refine Chk.mk ?_); focus (first | exact trivial | exact rfl | exact ⟨rfl, fun _ _ => rfl⟩ | exact ⟨rfl, rfl⟩ | omega | assumption | (refine ⟨?_, ?_⟩ <;> omega) | (refine ⟨?_, ?_, apnd ?_ ?_⟩; (focus omega); (focus omega); (focus decide); (focus omega)) | (refine ⟨?_, apnd ?_ ?_⟩; (focus omega); (focus decide); (focus omega)) | (refine ⟨?_, ?_⟩; (focus omega); (focus exact trivial)) | (simp <;> fail)))
      | with_reducible refine And.intro ?_ ?_)
  dsimp only
  rw [hv]
  repeat' ((conv => whnf); first
    | with_reducible refine Sq.d ?_
    | with_reducible refine Wk.rf ?_
    | ((with_reducible refine And.intro (Chk.mk ?_) ?_); focus (first | exact trivial | exact rfl | exact ⟨rfl, fun _ _ => rfl⟩ | exact ⟨rfl, rfl⟩ | omega | assumption | (refine ⟨?_, ?_⟩ <;> omega) | (refine ⟨?_, ?_, apnd ?_ ?_⟩; (focus omega); (focus omega); (focus decide); (focus omega)) | (refine ⟨?_, apnd ?_ ?_⟩; (focus omega); (focus decide); (focus omega)) | (refine ⟨?_, ?_⟩; (focus omega); (focus exact trivial)) | (simp <;> fail)))
    | ((with_reducible refine Wr.ex (wi64 ?_ ?_) ?_); (focus omega); (focus omega))
    | with_reducible refine br_nt ?_
    | with_reducible refine br_tt ?_
    | with_reducible refine br_ff ?_
    | with_reducible refine br_hT (by assumption) ?_
    | with_reducible refine br_hF (by assumption) ?_
    | with_reducible refine br_dT (by omega) ?_
    | with_reducible refine br_dF (by omega) ?_
    | with_reducible refine br_dT (by assumption) ?_
    | with_reducible refine br_dF (by assumption) ?_
    | with_reducible refine br_and ?_
    | with_reducible refine br_or ?_
    | with_reducible refine br_d (fun _ => ?_) (fun _ => ?_)
    | with_reducible refine Br.mk (fun _ => ?_) (fun _ => ?_))
  refine Dr.mk ⟨[0, 1, 2, 3, 4], by decide +kernel, ?_⟩
  repeat' ((conv => whnf); first
    | with_reducible refine Sq.d ?_
    | with_reducible refine Wk.rf ?_
    | ((with_reducible refine And.intro (Chk.mk ?_) ?_); focus (first | exact trivial | exact rfl | exact ⟨rfl, fun _ _ => rfl⟩ | exact ⟨rfl, rfl⟩ | omega | assumption | (refine ⟨?_, ?_⟩ <;> omega) | (refine ⟨?_, ?_, apnd ?_ ?_⟩; (focus omega); (focus omega); (focus decide); (focus omega)) | (refine ⟨?_, apnd ?_ ?_⟩; (focus omega); (focus decide); (focus omega)) | (refine ⟨?_, ?_⟩; (focus omega); (focus exact trivial)) | (simp <;> fail)))
    | ((with_reducible refine Wr.ex (wi64 ?_ ?_) ?_); (focus omega); (focus omega))
    | with_reducible refine br_nt ?_
    | with_reducible refine br_tt ?_
    | with_reducible refine br_ff ?_
    | with_reducible refine br_hT (by assumption) ?_
    | with_reducible refine br_hF (by assumption) ?_
    | with_reducible refine br_dT (by omega) ?_
    | with_reducible refine br_dF (by omega) ?_
    | with_reducible refine br_dT (by assumption) ?_
    | with_reducible refine br_dF (by assumption) ?_
    | with_reducible refine br_and ?_
    | with_reducible refine br_or ?_
    | with_reducible refine br_d (fun _ => ?_) (fun _ => ?_)
    | with_reducible refine Br.mk (fun _ => ?_) (fun _ => ?_))
  refine ⟨⟨p, bs⟩, ?_, ⟨b1⟩, ?_⟩
  · repeat' ((conv => whnf); first
      | with_reducible exact True.intro
      | ((with_reducible refine Chk.mk ?_); focus (first | exact trivial | exact rfl | exact ⟨rfl, fun _ _ => rfl⟩ | exact ⟨rfl, rfl⟩ | omega | assumption | (refine ⟨?_, ?_⟩ <;> omega) | (refine ⟨?_, ?_, apnd ?_ ?_⟩; (focus omega); (focus omega); (focus decide); (focus omega)) | (refine ⟨?_, apnd ?_ ?_⟩; (focus omega); (focus decide); (focus omega)) | (refine ⟨?_, ?_⟩; (focus omega); (focus exact trivial)) | (simp <;> fail)))
      | with_reducible refine And.intro ?_ ?_)
  repeat' ((conv => whnf); first
    | with_reducible refine Sq.d ?_
    | with_reducible refine Wk.rf ?_
    | ((with_reducible refine And.intro (Chk.mk ?_) ?_); focus (first | exact trivial | exact rfl | exact ⟨rfl, fun _ _ => rfl⟩ | exact ⟨rfl, rfl⟩ | omega | assumption | (refine ⟨?_, ?_⟩ <;> omega) | (refine ⟨?_, ?_, apnd ?_ ?_⟩; (focus omega); (focus omega); (focus decide); (focus omega)) | (refine ⟨?_, apnd ?_ ?_⟩; (focus omega); (focus decide); (focus omega)) | (refine ⟨?_, ?_⟩; (focus omega); (focus exact trivial)) | (simp <;> fail)))
    | ((with_reducible refine Wr.ex (wi64 ?_ ?_) ?_); (focus omega); (focus omega))
    | with_reducible refine br_nt ?_
    | with_reducible refine br_tt ?_
    | with_reducible refine br_ff ?_
    | with_reducible refine br_hT (by assumption) ?_
    | with_reducible refine br_hF (by assumption) ?_
    | with_reducible refine br_dT (by omega) ?_
    | with_reducible refine br_dF (by omega) ?_
    | with_reducible refine br_dT (by assumption) ?_
    | with_reducible refine br_dF (by assumption) ?_
    | with_reducible refine br_and ?_
    | with_reducible refine br_or ?_
    | with_reducible refine br_d (fun _ => ?_) (fun _ => ?_)
    | with_reducible refine Br.mk (fun _ => ?_) (fun _ => ?_))
  refine ⟨⟨p, bs⟩, ?_, ⟨b1⟩, ?_⟩
  · repeat' ((conv => whnf); first
      | with_reducible exact True.intro
      | ((with_reducible refine Chk.mk ?_); focus (first | exact trivial | exact rfl | exact ⟨rfl, fun _ _ => rfl⟩ | exact ⟨rfl, rfl⟩ | omega | assumption | (refine ⟨?_, ?_⟩ <;> omega) | (refine ⟨?_, ?_, apnd ?_ ?_⟩; (focus omega); (focus omega); (focus decide); (focus omega)) | (refine ⟨?_, apnd ?_ ?_⟩; (focus omega); (focus decide); (focus omega)) | (refine ⟨?_, ?_⟩; (focus omega); (focus exact trivial)) | (simp <;> fail)))
      | with_reducible refine And.intro ?_ ?_)
  repeat' ((conv => whnf); first
    | with_reducible refine Sq.d ?_
    | with_reducible refine Wk.rf ?_
    | ((with_reducible refine And.intro (Chk.mk ?_) ?_); focus (first | exact trivial | exact rfl | exact ⟨rfl, fun _ _ => rfl⟩ | exact ⟨rfl, rfl⟩ | omega | assumption | (refine ⟨?_, ?_⟩ <;> omega) | (refine ⟨?_, ?_, apnd ?_ ?_⟩; (focus omega); (focus omega); (focus decide); (focus omega)) | (refine ⟨?_, apnd ?_ ?_⟩; (focus omega); (focus decide); (focus omega)) | (refine ⟨?_, ?_⟩; (focus omega); (focus exact trivial)) | (simp <;> fail)))
    | ((with_reducible refine Wr.ex (wi64 ?_ ?_) ?_); (focus omega); (focus omega))
    | with_reducible refine br_nt ?_
    | with_reducible refine br_tt ?_
    | with_reducible refine br_ff ?_
    | with_reducible refine br_hT (by assumption) ?_
    | with_reducible refine br_hF (by assumption) ?_
    | with_reducible refine br_dT (by omega) ?_
    | with_reducible refine br_dF (by omega) ?_
    | with_reducible refine br_dT (by assumption) ?_
    | with_reducible refine br_dF (by assumption) ?_
    | with_reducible refine br_and ?_
    | with_reducible refine br_or ?_
    | with_reducible refine br_d (fun _ => ?_) (fun _ => ?_)
    | with_reducible refine Br.mk (fun _ => ?_) (fun _ => ?_))
  refine ⟨t, ?_, ⟨b2⟩, ?_⟩
  · repeat' ((conv => whnf); first
      | with_reducible exact True.intro
      | ((with_reducible refine Chk.mk ?_); focus (first | exact trivial | exact rfl | exact ⟨rfl, fun _ _ => rfl⟩ | exact ⟨rfl, rfl⟩ | omega | assumption | (refine ⟨?_, ?_⟩ <;> omega) | (refine ⟨?_, ?_, apnd ?_ ?_⟩; (focus omega); (focus omega); (focus decide); (focus omega)) | (refine ⟨?_, apnd ?_ ?_⟩; (focus omega); (focus decide); (focus omega)) | (refine ⟨?_, ?_⟩; (focus omega); (focus exact trivial)) | (simp <;> fail)))
      | with_reducible refine And.intro ?_ ?_)
  repeat' ((conv => whnf); first
    | with_reducible refine Sq.d ?_
    | with_reducible refine Wk.rf ?_
    | ((with_reducible refine And.intro (Chk.mk ?_) ?_); focus (first | exact trivial | exact rfl | exact ⟨rfl, fun _ _ => rfl⟩ | exact ⟨rfl, rfl⟩ | omega | assumption | (refine ⟨?_, ?_⟩ <;> omega) | (refine ⟨?_, ?_, apnd ?_ ?_⟩; (focus omega); (focus omega); (focus decide); (focus omega)) | (refine ⟨?_, apnd ?_ ?_⟩; (focus omega); (focus decide); (focus omega)) | (refine ⟨?_, ?_⟩; (focus omega); (focus exact trivial)) | (simp <;> fail)))
    | ((with_reducible refine Wr.ex (wi64 ?_ ?_) ?_); (focus omega); (focus omega))
    | with_reducible refine br_nt ?_
    | with_reducible refine br_tt ?_
    | with_reducible refine br_ff ?_
    | with_reducible refine br_hT (by assumption) ?_
    | with_reducible refine br_hF (by assumption) ?_
    | with_reducible refine br_dT (by omega) ?_
    | with_reducible refine br_dF (by omega) ?_
    | with_reducible refine br_dT (by assumption) ?_
    | with_reducible refine br_dF (by assumption) ?_
    | with_reducible refine br_and ?_
    | with_reducible refine br_or ?_
    | with_reducible refine br_d (fun _ => ?_) (fun _ => ?_)
    | with_reducible refine Br.mk (fun _ => ?_) (fun _ => ?_))
  refine ⟨t, ?_, ⟨b2⟩, ?_⟩
  · repeat' ((conv => whnf); first
      | with_reducible exact True.intro
      | ((with_reducible refine Chk.mk ?_); focus (first | exact trivial | exact rfl | exact ⟨rfl, fun _ _ => rfl⟩ | exact ⟨rfl, rfl⟩ | omega | assumption | (refine ⟨?_, ?_⟩ <;> omega) | (refine ⟨?_, ?_, apnd ?_ ?_⟩; (focus omega); (focus omega); (focus decide); (focus omega)) | (refine ⟨?_, apnd ?_ ?_⟩; (focus omega); (focus decide); (focus omega)) | (refine ⟨?_, ?_⟩; (focus omega); (focus exact trivial)) | (simp <;> fail)))
      | with_reducible refine And.intro ?_ ?_)
  repeat' ((conv => whnf); first
    | with_reducible refine Sq.d ?_
    | with_reducible refine Wk.rf ?_
    | ((with_reducible refine And.intro (Chk.mk ?_) ?_); focus (first | exact trivial | exact rfl | exact ⟨rfl, fun _ _ => rfl⟩ | exact ⟨rfl, rfl⟩ | omega | assumption | (refine ⟨?_, ?_⟩ <;> omega) | (refine ⟨?_, ?_, apnd ?_ ?_⟩; (focus omega); (focus omega); (focus decide); (focus omega)) | (refine ⟨?_, apnd ?_ ?_⟩; (focus omega); (focus decide); (focus omega)) | (refine ⟨?_, ?_⟩; (focus omega); (focus exact trivial)) | (simp <;> fail)))
    | ((with_reducible refine Wr.ex (wi64 ?_ ?_) ?_); (focus omega); (focus omega))
    | with_reducible refine br_nt ?_
    | with_reducible refine br_tt ?_
    | with_reducible refine br_ff ?_
    | with_reducible refine br_hT (by assumption) ?_
    | with_reducible refine br_hF (by assumption) ?_
    | with_reducible refine br_dT (by omega) ?_
    | with_reducible refine br_dF (by omega) ?_
    | with_reducible refine br_dT (by assumption) ?_
    | with_reducible refine br_dF (by assumption) ?_
    | with_reducible refine br_and ?_
    | with_reducible refine br_or ?_
    | with_reducible refine br_d (fun _ => ?_) (fun _ => ?_)
    | with_reducible refine Br.mk (fun _ => ?_) (fun _ => ?_))
  refine ⟨l, ?_, ⟨b3⟩, ?_⟩
  · repeat' ((conv => whnf); first
      | with_reducible exact True.intro
      | ((with_reducible refine Chk.mk ?_); focus (first | exact trivial | exact rfl | exact ⟨rfl, fun _ _ => rfl⟩ | exact ⟨rfl, rfl⟩ | omega | assumption | (refine ⟨?_, ?_⟩ <;> omega) | (refine ⟨?_, ?_, apnd ?_ ?_⟩; (focus omega); (focus omega); (focus decide); (focus omega)) | (refine ⟨?_, apnd ?_ ?_⟩; (focus omega); (focus decide); (focus omega)) | (refine ⟨?_, ?_⟩; (focus omega); (focus exact trivial)) | (simp <;> fail)))
      | with_reducible refine And.intro ?_ ?_)
  repeat' ((conv => whnf); first
    | with_reducible refine Sq.d ?_
    | with_reducible refine Wk.rf ?_
    | ((with_reducible refine And.intro (Chk.mk ?_) ?_); focus (first | exact trivial | exact rfl | exact ⟨rfl, fun _ _ => rfl⟩ | exact ⟨rfl, rfl⟩ | omega | assumption | (refine ⟨?_, ?_⟩ <;> omega) | (refine ⟨?_, ?_, apnd ?_ ?_⟩; (focus omega); (focus omega); (focus decide); (focus omega)) | (refine ⟨?_, apnd ?_ ?_⟩; (focus omega); (focus decide); (focus omega)) | (refine ⟨?_, ?_⟩; (focus omega); (focus exact trivial)) | (simp <;> fail)))
    | ((with_reducible refine Wr.ex (wi64 ?_ ?_) ?_); (focus omega); (focus omega))
    | with_reducible refine br_nt ?_
    | with_reducible refine br_tt ?_
    | with_reducible refine br_ff ?_
    | with_reducible refine br_hT (by assumption) ?_
    | with_reducible refine br_hF (by assumption) ?_
    | with_reducible refine br_dT (by omega) ?_
    | with_reducible refine br_dF (by omega) ?_
    | with_reducible refine br_dT (by assumption) ?_
    | with_reducible refine br_dF (by assumption) ?_
    | with_reducible refine br_and ?_
    | with_reducible refine br_or ?_
    | with_reducible refine br_d (fun _ => ?_) (fun _ => ?_)
    | with_reducible refine Br.mk (fun _ => ?_) (fun _ => ?_))
  refine ⟨l, ?_, ⟨b3⟩, ?_⟩
  · repeat' ((conv => whnf); first
      | with_reducible exact True.intro
      | ((with_reducible refine Chk.mk ?_); focus (first | exact trivial | exact rfl | exact ⟨rfl, fun _ _ => rfl⟩ | exact ⟨rfl, rfl⟩ | omega | assumption | (refine ⟨?_, ?_⟩ <;> omega) | (refine ⟨?_, ?_, apnd ?_ ?_⟩; (focus omega); (focus omega); (focus decide); (focus omega)) | (refine ⟨?_, apnd ?_ ?_⟩; (focus omega); (focus decide); (focus omega)) | (refine ⟨?_, ?_⟩; (focus omega); (focus exact trivial)) | (simp <;> fail)))
      | with_reducible refine And.intro ?_ ?_)
  repeat' ((conv => whnf); first
    | with_reducible refine Sq.d ?_
    | with_reducible refine Wk.rf ?_
    | ((with_reducible refine And.intro (Chk.mk ?_) ?_); focus (first | exact trivial | exact rfl | exact ⟨rfl, fun _ _ => rfl⟩ | exact ⟨rfl, rfl⟩ | omega | assumption | (refine ⟨?_, ?_⟩ <;> omega) | (refine ⟨?_, ?_, apnd ?_ ?_⟩; (focus omega); (focus omega); (focus decide); (focus omega)) | (refine ⟨?_, apnd ?_ ?_⟩; (focus omega); (focus decide); (focus omega)) | (refine ⟨?_, ?_⟩; (focus omega); (focus exact trivial)) | (simp <;> fail)))
    | ((with_reducible refine Wr.ex (wi64 ?_ ?_) ?_); (focus omega); (focus omega))
    | with_reducible refine br_nt ?_
    | with_reducible refine br_tt ?_
    | with_reducible refine br_ff ?_
    | with_reducible refine br_hT (by assumption) ?_
    | with_reducible refine br_hF (by assumption) ?_
    | with_reducible refine br_dT (by omega) ?_
    | with_reducible refine br_dF (by omega) ?_
    | with_reducible refine br_dT (by assumption) ?_
    | with_reducible refine br_dF (by assumption) ?_
    | with_reducible refine br_and ?_
    | with_reducible refine br_or ?_
    | with_reducible refine br_d (fun _ => ?_) (fun _ => ?_)
    | with_reducible refine Br.mk (fun _ => ?_) (fun _ => ?_))
  exact h
end Go.Proofs.Ytbbgojaloebknaa.Vc
