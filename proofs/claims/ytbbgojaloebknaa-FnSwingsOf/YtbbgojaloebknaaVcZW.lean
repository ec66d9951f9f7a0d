/- Part ZW: the laws FnSwingsOf and FnPivotsOf. -/
import Derived.Test.YtbbgojaloebknaaVcZS
import Derived.Test.YtbbgojaloebknaaVcZR
namespace Go.Proofs.Ytbbgojaloebknaa.Vc
open Go.Proofs
set_option maxRecDepth 10000
set_option maxHeartbeats 4000000
abbrev lawB : List AV → (AV → Prop) → Prop := con (X := List Int) (fun l => [slB l]) (fun l => (∀ n ∈ l, u8r n) ∧ l.length < 9223372036854775808) fun _ K => K (.bool true)
theorem dual_i64 {h : House} {t : List Mark} (hd : Drawn h t) (hO : termOk h t) : termI h (dualT h.bs t) := by
  obtain ⟨i1, i2, i3, i4⟩ := hd.i64
  refine ⟨i1, i2, fun m hm => ?_, by rw [dualT, List.length_map]; exact i4⟩
  obtain ⟨x, hx, rfl⟩ := List.mem_map.1 hm
  have hi := i3 x hx
  have hg := walk_good t 0 1 hO.2.2 x hx
  have hh := heads_le (h.bs.getD x.at_.toNat 0).toNat
  unfold dualM Mark.i64 i64r at *
  rcases hg with ⟨g0, g1, g2, g3, g4⟩ | g | g
  · rw [if_pos g0]; dsimp only; omega
  · rw [if_neg (by omega), if_pos g]; dsimp only; omega
  · rw [if_neg (by omega), if_neg (by omega)]; dsimp only; omega
def C4 := lawB
theorem F4 : FF 4 C4 := by
  refine fitE [(19, C19), (20, C20), (21, C21), (22, C22), (23, C23), (24, C24)] (by simp only [List.mem_cons, List.not_mem_nil, or_false]; rintro _ (rfl | rfl | rfl | rfl | rfl | rfl) <;> first | exact F19 | exact F20 | exact F21 | exact F22 | exact F23 | exact F24) Try.f4 ⟨rfl, by decide +kernel, by decide +kernel⟩ (fun _ _ _ hk h => hk _ h) ?_
  rintro l K ⟨h1, h2⟩ h
  refine ⟨Nat.le_of_ble_eq_true rfl, ?_⟩
  repeat' ((conv => whnf); first
    | with_reducible refine Sq.d ?_
    | with_reducible refine Wk.rf ?_
    | ((with_reducible refine And.intro (Chk.mk ?_) ?_); focus (first | exact trivial | exact rfl | exact ⟨rfl, fun _ _ => rfl⟩ | exact ⟨rfl, rfl⟩ | omega | assumption | (refine ⟨?_, ?_⟩ <;> omega) | (refine ⟨?_, ?_, apnd ?_ ?_⟩; (focus omega); (focus omega); (focus decide); (focus omega)) | (refine ⟨?_, apnd ?_ ?_⟩; (focus omega); (focus decide); (focus omega)) | (refine ⟨?_, ?_⟩; (focus omega); (focus exact trivial)) | (simp <;> fail)))
    | ((with_reducible refine Wr.ex (wi64 ?_ ?_) ?_); (focus omega); (focus omega))
    | with_reducible refine br_nt ?_
    | with_reducible refine br_tt ?_
    | with_reducible refine br_ff ?_
    | with_reducible refine br_hT (by assumption) ?_
    | with_reducible refine br_hF (by assumption) ?_
    | with_reducible refine br_dT (by omega) ?_
    | with_reducible refine br_dF (by omega) ?_
    | with_reducible refine br_dT (by assumption) ?_
    | with_reducible refine br_dF (by assumption) ?_
    | with_reducible refine br_and ?_
    | with_reducible refine br_or ?_
    | with_reducible refine br_d (fun _ => ?_) (fun _ => ?_)
    | with_reducible refine Br.mk (fun _ => ?_) (fun _ => ?_))
  · exact h
  refine ⟨l, ?_, ⟨h1, h2⟩, ?_⟩
  · repeat' ((conv => whnf); first
      | with_reducible exact True.intro
      | ((with_reducible refine Chk.mk ?_); focus (first | exact trivial | exact rfl | exact ⟨rfl, fun _ _ => rfl⟩ | exact ⟨rfl, rfl⟩ | omega | assumption | (refine ⟨?_, ?_⟩ <;> omega) | (refine ⟨?_, ?_, apnd ?_ ?_⟩; (focus omega); (focus omega); (focus decide); (focus omega)) | (refine ⟨?_, apnd ?_ ?_⟩; (focus omega); (focus decide); (focus omega)) | (refine ⟨?_, ?_⟩; (focus omega); (focus exact trivial)) | (simp <;> fail)))
      | with_reducible refine And.intro ?_ ?_)
  rintro ⟨p, bs⟩ t w hd w1 w2
  have hI := hd.i64
  have hwI : i64r w := by unfold i64r; omega
  repeat' ((conv => whnf); first
    | with_reducible refine Sq.d ?_
    | with_reducible refine Wk.rf ?_
    | ((with_reducible refine And.intro (Chk.mk ?_) ?_); focus (first | exact trivial | exact rfl | exact ⟨rfl, fun _ _ => rfl⟩ | exact ⟨rfl, rfl⟩ | omega | assumption | (refine ⟨?_, ?_⟩ <;> omega) | (refine ⟨?_, ?_, apnd ?_ ?_⟩; (focus omega); (focus omega); (focus decide); (focus omega)) | (refine ⟨?_, apnd ?_ ?_⟩; (focus omega); (focus decide); (focus omega)) | (refine ⟨?_, ?_⟩; (focus omega); (focus exact trivial)) | (simp <;> fail)))
    | ((with_reducible refine Wr.ex (wi64 ?_ ?_) ?_); (focus omega); (focus omega))
    | with_reducible refine br_nt ?_
    | with_reducible refine br_tt ?_
    | with_reducible refine br_ff ?_
    | with_reducible refine br_hT (by assumption) ?_
    | with_reducible refine br_hF (by assumption) ?_
    | with_reducible refine br_dT (by omega) ?_
    | with_reducible refine br_dF (by omega) ?_
    | with_reducible refine br_dT (by assumption) ?_
    | with_reducible refine br_dF (by assumption) ?_
    | with_reducible refine br_and ?_
    | with_reducible refine br_or ?_
    | with_reducible refine br_d (fun _ => ?_) (fun _ => ?_)
    | with_reducible refine Br.mk (fun _ => ?_) (fun _ => ?_))
  refine ⟨⟨⟨p, bs⟩, t, w⟩, ?_, ⟨hI, hwI⟩, ?_⟩
  · repeat' ((conv => whnf); first
      | with_reducible exact True.intro
      | ((with_reducible refine Chk.mk ?_); focus (first | exact trivial | exact rfl | exact ⟨rfl, fun _ _ => rfl⟩ | exact ⟨rfl, rfl⟩ | omega | assumption | (refine ⟨?_, ?_⟩ <;> omega) | (refine ⟨?_, ?_, apnd ?_ ?_⟩; (focus omega); (focus omega); (focus decide); (focus omega)) | (refine ⟨?_, apnd ?_ ?_⟩; (focus omega); (focus decide); (focus omega)) | (refine ⟨?_, ?_⟩; (focus omega); (focus exact trivial)) | (simp <;> fail)))
      | with_reducible refine And.intro ?_ ?_)
  dsimp only
  obtain ⟨v, hv⟩ : ∃ v, swingsOf ⟨⟨p, bs⟩, t, w⟩ = v := ⟨_, rfl⟩
  rw [hv]
  repeat' ((conv => whnf); first
    | with_reducible refine Sq.d ?_
    | with_reducible refine Wk.rf ?_
    | ((with_reducible refine And.intro (Chk.mk ?_) ?_); focus (first | exact trivial | exact rfl | exact ⟨rfl, fun _ _ => rfl⟩ | exact ⟨rfl, rfl⟩ | omega | assumption | (refine ⟨?_, ?_⟩ <;> omega) | (refine ⟨?_, ?_, apnd ?_ ?_⟩; (focus omega); (focus omega); (focus decide); (focus omega)) | (refine ⟨?_, apnd ?_ ?_⟩; (focus omega); (focus decide); (focus omega)) | (refine ⟨?_, ?_⟩; (focus omega); (focus exact trivial)) | (simp <;> fail)))
    | ((with_reducible refine Wr.ex (wi64 ?_ ?_) ?_); (focus omega); (focus omega))
    | with_reducible refine br_nt ?_
    | with_reducible refine br_tt ?_
    | with_reducible refine br_ff ?_
    | with_reducible refine br_hT (by assumption) ?_
    | with_reducible refine br_hF (by assumption) ?_
    | with_reducible refine br_dT (by omega) ?_
    | with_reducible refine br_dF (by omega) ?_
    | with_reducible refine br_dT (by assumption) ?_
    | with_reducible refine br_dF (by assumption) ?_
    | with_reducible refine br_and ?_
    | with_reducible refine br_or ?_
    | with_reducible refine br_d (fun _ => ?_) (fun _ => ?_)
    | with_reducible refine Br.mk (fun _ => ?_) (fun _ => ?_))
  refine ⟨⟨⟨p, bs⟩, t, w⟩, ?_, ⟨hI, hwI⟩, ?_⟩
  · repeat' ((conv => whnf); first
      | with_reducible exact True.intro
      | ((with_reducible refine Chk.mk ?_); focus (first | exact trivial | exact rfl | exact ⟨rfl, fun _ _ => rfl⟩ | exact ⟨rfl, rfl⟩ | omega | assumption | (refine ⟨?_, ?_⟩ <;> omega) | (refine ⟨?_, ?_, apnd ?_ ?_⟩; (focus omega); (focus omega); (focus decide); (focus omega)) | (refine ⟨?_, apnd ?_ ?_⟩; (focus omega); (focus decide); (focus omega)) | (refine ⟨?_, ?_⟩; (focus omega); (focus exact trivial)) | (simp <;> fail)))
      | with_reducible refine And.intro ?_ ?_)
  dsimp only
  rw [hv]
  repeat' ((conv => whnf); first
    | with_reducible refine Sq.d ?_
    | with_reducible refine Wk.rf ?_
    | ((with_reducible refine And.intro (Chk.mk ?_) ?_); focus (first | exact trivial | exact rfl | exact ⟨rfl, fun _ _ => rfl⟩ | exact ⟨rfl, rfl⟩ | omega | assumption | (refine ⟨?_, ?_⟩ <;> omega) | (refine ⟨?_, ?_, apnd ?_ ?_⟩; (focus omega); (focus omega); (focus decide); (focus omega)) | (refine ⟨?_, apnd ?_ ?_⟩; (focus omega); (focus decide); (focus omega)) | (refine ⟨?_, ?_⟩; (focus omega); (focus exact trivial)) | (simp <;> fail)))
    | ((with_reducible refine Wr.ex (wi64 ?_ ?_) ?_); (focus omega); (focus omega))
    | with_reducible refine br_nt ?_
    | with_reducible refine br_tt ?_
    | with_reducible refine br_ff ?_
    | with_reducible refine br_hT (by assumption) ?_
    | with_reducible refine br_hF (by assumption) ?_
    | with_reducible refine br_dT (by omega) ?_
    | with_reducible refine br_dF (by omega) ?_
    | with_reducible refine br_dT (by assumption) ?_
    | with_reducible refine br_dF (by assumption) ?_
    | with_reducible refine br_and ?_
    | with_reducible refine br_or ?_
    | with_reducible refine br_d (fun _ => ?_) (fun _ => ?_)
    | with_reducible refine Br.mk (fun _ => ?_) (fun _ => ?_))
  · refine ⟨(), ?_, ⟨trivial⟩, ?_⟩
    · repeat' ((conv => whnf); first
        | with_reducible exact True.intro
        | ((with_reducible refine Chk.mk ?_); focus (first | exact trivial | exact rfl | exact ⟨rfl, fun _ _ => rfl⟩ | exact ⟨rfl, rfl⟩ | omega | assumption | (refine ⟨?_, ?_⟩ <;> omega) | (refine ⟨?_, ?_, apnd ?_ ?_⟩; (focus omega); (focus omega); (focus decide); (focus omega)) | (refine ⟨?_, apnd ?_ ?_⟩; (focus omega); (focus decide); (focus omega)) | (refine ⟨?_, ?_⟩; (focus omega); (focus exact trivial)) | (simp <;> fail)))
        | with_reducible refine And.intro ?_ ?_)
    repeat' ((conv => whnf); first
      | with_reducible refine Sq.d ?_
      | with_reducible refine Wk.rf ?_
      | ((with_reducible refine And.intro (Chk.mk ?_) ?_); focus (first | exact trivial | exact rfl | exact ⟨rfl, fun _ _ => rfl⟩ | exact ⟨rfl, rfl⟩ | omega | assumption | (refine ⟨?_, ?_⟩ <;> omega) | (refine ⟨?_, ?_, apnd ?_ ?_⟩; (focus omega); (focus omega); (focus decide); (focus omega)) | (refine ⟨?_, apnd ?_ ?_⟩; (focus omega); (focus decide); (focus omega)) | (refine ⟨?_, ?_⟩; (focus omega); (focus exact trivial)) | (simp <;> fail)))
      | ((with_reducible refine Wr.ex (wi64 ?_ ?_) ?_); (focus omega); (focus omega))
      | with_reducible refine br_nt ?_
      | with_reducible refine br_tt ?_
      | with_reducible refine br_ff ?_
      | with_reducible refine br_hT (by assumption) ?_
      | with_reducible refine br_hF (by assumption) ?_
      | with_reducible refine br_dT (by omega) ?_
      | with_reducible refine br_dF (by omega) ?_
      | with_reducible refine br_dT (by assumption) ?_
      | with_reducible refine br_dF (by assumption) ?_
      | with_reducible refine br_and ?_
      | with_reducible refine br_or ?_
      | with_reducible refine br_d (fun _ => ?_) (fun _ => ?_)
      | with_reducible refine Br.mk (fun _ => ?_) (fun _ => ?_))
    exact h
  · rename_i g1 g2
    unfold swingsOf at hv
    split at hv <;> omega
  · rename_i g1
    have hc : termOk ⟨p, bs⟩ t ∧ 0 ≤ w ∧ w < p := by
      unfold swingsOf at hv
      split at hv
      · assumption
      · omega
    obtain ⟨hO, w3, w4⟩ := hc
    have pp : people p := hO.1.1
    have hp := pp.2
    have hp1 := pp.1
    have hl : ((swl bs t w (pw p).toNat).length : Int) = v := by
      unfold swingsOf at hv
      rw [if_pos ⟨hO, w3, w4⟩] at hv
      exact hv
    have W : Who p w.toNat := ⟨pp, by omega⟩
    have ew : ((w.toNat : Nat) : Int) = w := by omega
    have ld := len_dual hO W
    rw [ew] at ld
    have hv2 : swingsOf ⟨⟨p, bs⟩, dualT bs t, w⟩ = v := by
      unfold swingsOf
      rw [if_pos ⟨termOk_dual hO, w3, w4⟩]
      show ((swl bs (dualT bs t) w (pw p).toNat).length : Int) = v
      omega
    have hh := len_half (t := t) (bs := bs) W
    rw [ew, hl] at hh
    have hi := idle_has bs t (pw p).toNat p.toNat (by omega) w.toNat (by omega)
    have hsh : (1 : Int) * 2 ^ min (p - 1).toNat IntKind.i64.bits = ((2 ^ (p.toNat - 1) : Nat) : Int) := by
      rcases people_cases pp with rfl | rfl | rfl | rfl | rfl | rfl <;> rfl
    rw [ew] at hi
    refine Dr.mk ⟨[0, 1, 2, 4, 6, 3, 5, 7, 8, 9, 10, 11, 12, 14, 13, 15, 16, 17, 18, 19, 20, 21, 22, 23, 24, 25, 26, 27, 28], by decide +kernel, ?_⟩
    repeat' ((conv => whnf); first
      | with_reducible refine Sq.d ?_
      | with_reducible refine Wk.rf ?_
      | ((with_reducible refine And.intro (Chk.mk ?_) ?_); focus (first | exact trivial | exact rfl | exact ⟨rfl, fun _ _ => rfl⟩ | exact ⟨rfl, rfl⟩ | omega | assumption | (refine ⟨?_, ?_⟩ <;> omega) | (refine ⟨?_, ?_, apnd ?_ ?_⟩; (focus omega); (focus omega); (focus decide); (focus omega)) | (refine ⟨?_, apnd ?_ ?_⟩; (focus omega); (focus decide); (focus omega)) | (refine ⟨?_, ?_⟩; (focus omega); (focus exact trivial)) | (simp <;> fail)))
      | ((with_reducible refine Wr.ex (wi64 ?_ ?_) ?_); (focus omega); (focus omega))
      | with_reducible refine br_nt ?_
      | with_reducible refine br_tt ?_
      | with_reducible refine br_ff ?_
      | with_reducible refine br_hT (by assumption) ?_
      | with_reducible refine br_hF (by assumption) ?_
      | with_reducible refine br_dT (by omega) ?_
      | with_reducible refine br_dF (by omega) ?_
      | with_reducible refine br_dT (by assumption) ?_
      | with_reducible refine br_dF (by assumption) ?_
      | with_reducible refine br_and ?_
      | with_reducible refine br_or ?_
      | with_reducible refine br_d (fun _ => ?_) (fun _ => ?_)
      | with_reducible refine Br.mk (fun _ => ?_) (fun _ => ?_))
    refine ⟨(⟨p, bs⟩, t), ?_, ⟨hI, hO⟩, ?_⟩
    · repeat' ((conv => whnf); first
        | with_reducible exact True.intro
        | ((with_reducible refine Chk.mk ?_); focus (first | exact trivial | exact rfl | exact ⟨rfl, fun _ _ => rfl⟩ | exact ⟨rfl, rfl⟩ | omega | assumption | (refine ⟨?_, ?_⟩ <;> omega) | (refine ⟨?_, ?_, apnd ?_ ?_⟩; (focus omega); (focus omega); (focus decide); (focus omega)) | (refine ⟨?_, apnd ?_ ?_⟩; (focus omega); (focus decide); (focus omega)) | (refine ⟨?_, ?_⟩; (focus omega); (focus exact trivial)) | (simp <;> fail)))
        | with_reducible refine And.intro ?_ ?_)
    repeat' ((conv => whnf); first
      | with_reducible refine Sq.d ?_
      | with_reducible refine Wk.rf ?_
      | ((with_reducible refine And.intro (Chk.mk ?_) ?_); focus (first | exact trivial | exact rfl | exact ⟨rfl, fun _ _ => rfl⟩ | exact ⟨rfl, rfl⟩ | omega | assumption | (refine ⟨?_, ?_⟩ <;> omega) | (refine ⟨?_, ?_, apnd ?_ ?_⟩; (focus omega); (focus omega); (focus decide); (focus omega)) | (refine ⟨?_, apnd ?_ ?_⟩; (focus omega); (focus decide); (focus omega)) | (refine ⟨?_, ?_⟩; (focus omega); (focus exact trivial)) | (simp <;> fail)))
      | ((with_reducible refine Wr.ex (wi64 ?_ ?_) ?_); (focus omega); (focus omega))
      | with_reducible refine br_nt ?_
      | with_reducible refine br_tt ?_
      | with_reducible refine br_ff ?_
      | with_reducible refine br_hT (by assumption) ?_
      | with_reducible refine br_hF (by assumption) ?_
      | with_reducible refine br_dT (by omega) ?_
      | with_reducible refine br_dF (by omega) ?_
      | with_reducible refine br_dT (by assumption) ?_
      | with_reducible refine br_dF (by assumption) ?_
      | with_reducible refine br_and ?_
      | with_reducible refine br_or ?_
      | with_reducible refine br_d (fun _ => ?_) (fun _ => ?_)
      | with_reducible refine Br.mk (fun _ => ?_) (fun _ => ?_))
    refine ⟨⟨⟨p, bs⟩, dualT bs t, w⟩, ?_, ⟨dual_i64 hd hO, hwI⟩, ?_⟩
    · repeat' ((conv => whnf); first
        | with_reducible exact True.intro
        | ((with_reducible refine Chk.mk ?_); focus (first | exact trivial | exact rfl | exact ⟨rfl, fun _ _ => rfl⟩ | exact ⟨rfl, rfl⟩ | omega | assumption | (refine ⟨?_, ?_⟩ <;> omega) | (refine ⟨?_, ?_, apnd ?_ ?_⟩; (focus omega); (focus omega); (focus decide); (focus omega)) | (refine ⟨?_, apnd ?_ ?_⟩; (focus omega); (focus decide); (focus omega)) | (refine ⟨?_, ?_⟩; (focus omega); (focus exact trivial)) | (simp <;> fail)))
        | with_reducible refine And.intro ?_ ?_)
    dsimp only
    rw [hv2]
    repeat' ((conv => whnf); first
      | with_reducible refine Sq.d ?_
      | with_reducible refine Wk.rf ?_
      | ((with_reducible refine And.intro (Chk.mk ?_) ?_); focus (first | exact trivial | exact rfl | exact ⟨rfl, fun _ _ => rfl⟩ | exact ⟨rfl, rfl⟩ | omega | assumption | (refine ⟨?_, ?_⟩ <;> omega) | (refine ⟨?_, ?_, apnd ?_ ?_⟩; (focus omega); (focus omega); (focus decide); (focus omega)) | (refine ⟨?_, apnd ?_ ?_⟩; (focus omega); (focus decide); (focus omega)) | (refine ⟨?_, ?_⟩; (focus omega); (focus exact trivial)) | (simp <;> fail)))
      | ((with_reducible refine Wr.ex (wi64 ?_ ?_) ?_); (focus omega); (focus omega))
      | with_reducible refine br_nt ?_
      | with_reducible refine br_tt ?_
      | with_reducible refine br_ff ?_
      | with_reducible refine br_hT (by assumption) ?_
      | with_reducible refine br_hF (by assumption) ?_
      | with_reducible refine br_dT (by omega) ?_
      | with_reducible refine br_dF (by omega) ?_
      | with_reducible refine br_dT (by assumption) ?_
      | with_reducible refine br_dF (by assumption) ?_
      | with_reducible refine br_and ?_
      | with_reducible refine br_or ?_
      | with_reducible refine br_d (fun _ => ?_) (fun _ => ?_)
      | with_reducible refine Br.mk (fun _ => ?_) (fun _ => ?_))
    refine ⟨(⟨p, bs⟩, t), ?_, ⟨hI, hO⟩, ?_⟩
    · repeat' ((conv => whnf); first
        | with_reducible exact True.intro
        | ((with_reducible refine Chk.mk ?_); focus (first | exact trivial | exact rfl | exact ⟨rfl, fun _ _ => rfl⟩ | exact ⟨rfl, rfl⟩ | omega | assumption | (refine ⟨?_, ?_⟩ <;> omega) | (refine ⟨?_, ?_, apnd ?_ ?_⟩; (focus omega); (focus omega); (focus decide); (focus omega)) | (refine ⟨?_, apnd ?_ ?_⟩; (focus omega); (focus decide); (focus omega)) | (refine ⟨?_, ?_⟩; (focus omega); (focus exact trivial)) | (simp <;> fail)))
        | with_reducible refine And.intro ?_ ?_)
    repeat' ((conv => whnf); first
      | with_reducible refine Wr.ex (wshw (by omega) (by omega)) ?_
      | with_reducible refine Sq.d ?_
      | with_reducible refine Wk.rf ?_
      | ((with_reducible refine And.intro (Chk.mk ?_) ?_); focus (first | exact trivial | exact rfl | exact ⟨rfl, fun _ _ => rfl⟩ | exact ⟨rfl, rfl⟩ | omega | assumption | (refine ⟨?_, ?_⟩ <;> omega) | (refine ⟨?_, ?_, apnd ?_ ?_⟩; (focus omega); (focus omega); (focus decide); (focus omega)) | (refine ⟨?_, apnd ?_ ?_⟩; (focus omega); (focus decide); (focus omega)) | (refine ⟨?_, ?_⟩; (focus omega); (focus exact trivial)) | (simp <;> fail)))
      | ((with_reducible refine Wr.ex (wi64 ?_ ?_) ?_); (focus omega); (focus omega))
      | with_reducible refine br_nt ?_
      | with_reducible refine br_tt ?_
      | with_reducible refine br_ff ?_
      | with_reducible refine br_hT (by assumption) ?_
      | with_reducible refine br_hF (by assumption) ?_
      | with_reducible refine br_dT (by omega) ?_
      | with_reducible refine br_dF (by omega) ?_
      | with_reducible refine br_dT (by assumption) ?_
      | with_reducible refine br_dF (by assumption) ?_
      | with_reducible refine br_and ?_
      | with_reducible refine br_or ?_
      | with_reducible refine br_d (fun _ => ?_) (fun _ => ?_)
      | with_reducible refine Br.mk (fun _ => ?_) (fun _ => ?_))
    · rw [hsh, decide_eq_true hh]
      exact h
    · rename_i hx
      have key : (decide (v = 0) == decide ((shrv .i64 (idleF bs t (pw p).toNat p.toNat) w).tmod 2 = 1)) = true := by
        have : decide ((shrv .i64 (idleF bs t (pw p).toNat p.toNat) w).tmod 2 = 1) = decide (v = 0) := by
          show has (idleF bs t (pw p).toNat p.toNat) w = _
          rw [hi, decide_eq_true (show w.toNat < p.toNat by omega), Bool.true_and, decide_eq_decide]
          omega
        rw [this]
        exact beq_self_eq_true _
      rw [key] at hx
      cases hx
end Go.Proofs.Ytbbgojaloebknaa.Vc
