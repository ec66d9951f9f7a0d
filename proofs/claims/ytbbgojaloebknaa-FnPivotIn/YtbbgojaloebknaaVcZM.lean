/- Part ZM: the law FnExactPivotsOf. -/
import Derived.Test.YtbbgojaloebknaaVcZL
import Derived.Test.YtbbgojaloebknaaVcZF
namespace Go.Proofs.Ytbbgojaloebknaa.Vc
open Go.Proofs
set_option maxRecDepth 10000
set_option maxHeartbeats 4000000
def C25 := C26
theorem swOk_of {p : Int} {bs : List Int} {t : List Mark} {w : Int} (h : termOk ⟨p, bs⟩ t) (h3 : 0 ≤ w) (h4 : w < p) (c : Int) (h1 : 0 ≤ c) (h2 : c < 64) : swOk ⟨p, bs, t, c, w⟩ :=
  ⟨sayOk_of h c h1 h2, h.2.1, h3, by have := h.1.1.2; show w < 6; have : p ≤ 6 := this; omega⟩
theorem F25 : FF 25 C25 := by
  refine fitE [(33, C33), (35, C35), (44, C44), (48, C48), (47, C47)] (by simp only [List.mem_cons, List.not_mem_nil, or_false]; rintro _ (rfl | rfl | rfl | rfl | rfl) <;> first | exact F33 | exact F35 | exact F44 | exact F48 | exact F47) Try.f25 ⟨rfl, by decide +kernel, by decide +kernel⟩ (fun _ _ _ hk h => hk _ h) ?_
  rintro ⟨⟨p, bs⟩, t, w⟩ K ⟨hI, hw⟩ h
  refine ⟨Nat.le_of_ble_eq_true rfl, ?_⟩
  dsimp only [enH] at h hI hw ⊢
  unfold pivotsOf at h
  dsimp only at h
  repeat' ((conv => whnf); first | refine vA ?_ | with_reducible first | refine vS ?_ | refine vR ?_ | refine vB ?_ | refine br_nt ?_ | refine br_tt ?_ | refine br_ff ?_ | refine vP ?_ | refine vQ ?_ | refine vT ?_ | refine vF ?_ | refine br_and ?_ | refine br_or ?_ | refine br_d (fun _ => ?_) fun _ => ?_ | refine vM (fun _ => ?_) fun _ => ?_)
  refine ⟨(⟨p, bs⟩, t), ?_, ⟨hI⟩, ?_⟩
  · repeat' ((conv => whnf); first | with_reducible exact True.intro | exact vW | with_reducible refine And.intro ?_ ?_)
  repeat' ((conv => whnf); first | refine vA ?_ | with_reducible first | refine vS ?_ | refine vR ?_ | refine vB ?_ | refine br_nt ?_ | refine br_tt ?_ | refine br_ff ?_ | refine vP ?_ | refine vQ ?_ | refine vT ?_ | refine vF ?_ | refine br_and ?_ | refine br_or ?_ | refine br_d (fun _ => ?_) fun _ => ?_ | refine vM (fun _ => ?_) fun _ => ?_)
  · rename_i hO
    have hO' : termOk ⟨p, bs⟩ t := hO
    have pp : people p := hO'.1.1
    have pw2 := pw_le pp
    have hp1 := pp.1
    have hp := pp.2
    repeat' ((conv => whnf); first | refine vA ?_ | with_reducible first | refine vS ?_ | refine vR ?_ | refine vB ?_ | refine br_nt ?_ | refine br_tt ?_ | refine br_ff ?_ | refine vP ?_ | refine vQ ?_ | refine vT ?_ | refine vF ?_ | refine br_and ?_ | refine br_or ?_ | refine br_d (fun _ => ?_) fun _ => ?_ | refine vM (fun _ => ?_) fun _ => ?_)
    refine ⟨(w, 0, p - 1), ?_, ⟨trivial⟩, ?_⟩
    · repeat' ((conv => whnf); first | with_reducible exact True.intro | exact vW | with_reducible refine And.intro ?_ ?_)
    repeat' ((conv => whnf); first | refine vA ?_ | with_reducible first | refine vS ?_ | refine vR ?_ | refine vB ?_ | refine br_nt ?_ | refine br_tt ?_ | refine br_ff ?_ | refine vP ?_ | refine vQ ?_ | refine vT ?_ | refine vF ?_ | refine br_and ?_ | refine br_or ?_ | refine br_d (fun _ => ?_) fun _ => ?_ | refine vM (fun _ => ?_) fun _ => ?_)
    · rename_i hb
      replace hb : 0 ≤ w ∧ w ≤ p - 1 := hb
      rw [if_pos ⟨hO', by omega, by omega⟩] at h
      refine Lp.mk ⟨Nat, fun i => [(1, slM t), (2, .int .i64 w), (3, .ptr 0 0), (7, .int .i64 (sumO p (swl bs t w i))), (8, .int .i64 i)],
        fun i => [.box [.int .i64 p, slI bs]], fun i => i ≤ (pw p).toNat, fun i => (pw p).toNat - i, ⟨0, Nat.zero_le _, ⟨⟨[some 0], [], rfl, rfl, ?_, ?_⟩⟩⟩, ?_⟩
      · repeat' ((conv => whnf); first | with_reducible exact True.intro | exact vW | with_reducible refine And.intro ?_ ?_)
      · repeat' ((conv => whnf); first | with_reducible exact True.intro | exact vW | with_reducible refine And.intro ?_ ?_)
      intro i i1
      dsimp only
      have hl := swl_lt bs t w i
      have hs := sumO_le hp (swl bs t w i) fun c hc => by have := hl c hc; omega
      have hll := swl_le bs t w i
      repeat' ((conv => whnf); first | with_reducible refine Wr.ex (wsh pp) ?_ | refine vA ?_ | with_reducible first | refine vS ?_ | refine vR ?_ | refine vB ?_ | refine br_nt ?_ | refine br_tt ?_ | refine br_ff ?_ | refine vP ?_ | refine vQ ?_ | refine vT ?_ | refine vF ?_ | refine br_and ?_ | refine br_or ?_ | refine br_d (fun _ => ?_) fun _ => ?_ | refine vM (fun _ => ?_) fun _ => ?_)
      · rename_i hi
        rw [pw_sh pp] at hi
        have hi6 : (i : Int) < 64 := by omega
        have hi0 : (0 : Int) ≤ i := by omega
        have ho := ord_le hp hi0 hi6
        have hh : heads (i : Int).toNat ≤ 6 := heads6 i (by omega)
        have f1 := fac_le (heads (i : Int).toNat) (by omega)
        have f2 := fac0 (p - 1 - heads (i : Int).toNat) (by omega)
        refine ⟨⟨p, bs, t, i, w⟩, ?_, ⟨swOk_of hO' (by omega) (by omega) _ hi0 hi6⟩, ?_⟩
        · repeat' ((conv => whnf); first | with_reducible exact True.intro | exact vW | with_reducible refine And.intro ?_ ?_)
        dsimp only
        repeat' ((conv => whnf); first | refine vA ?_ | with_reducible first | refine vS ?_ | refine vR ?_ | refine vB ?_ | refine br_nt ?_ | refine br_tt ?_ | refine br_ff ?_ | refine vP ?_ | refine vQ ?_ | refine vT ?_ | refine vF ?_ | refine br_and ?_ | refine br_or ?_ | refine br_d (fun _ => ?_) fun _ => ?_ | refine vM (fun _ => ?_) fun _ => ?_)
        · rename_i hv
          have e : sumO p (swl bs t w (i + 1)) = sumO p (swl bs t w i) + ord p i := by rw [swl, if_pos hv, sumO_app]; simp [sumO]
          refine Dr.mk ⟨[0, 1, 4, 5, 6, 7, 2, 3, 8, 9, 10, 11, 12, 13], by decide +kernel, ?_⟩
          repeat' ((conv => whnf); first | refine vA ?_ | with_reducible first | refine vS ?_ | refine vR ?_ | refine vB ?_ | refine br_nt ?_ | refine br_tt ?_ | refine br_ff ?_ | refine vP ?_ | refine vQ ?_ | refine vT ?_ | refine vF ?_ | refine br_and ?_ | refine br_or ?_ | refine br_d (fun _ => ?_) fun _ => ?_ | refine vM (fun _ => ?_) fun _ => ?_)
          refine ⟨i, ?_, ⟨by unfold i64r; omega⟩, ?_⟩
          · repeat' ((conv => whnf); first | with_reducible exact True.intro | exact vW | with_reducible refine And.intro ?_ ?_)
          repeat' ((conv => whnf); first | refine vA ?_ | with_reducible first | refine vS ?_ | refine vR ?_ | refine vB ?_ | refine br_nt ?_ | refine br_tt ?_ | refine br_ff ?_ | refine vP ?_ | refine vQ ?_ | refine vT ?_ | refine vF ?_ | refine br_and ?_ | refine br_or ?_ | refine br_d (fun _ => ?_) fun _ => ?_ | refine vM (fun _ => ?_) fun _ => ?_)
          refine ⟨heads (i : Int).toNat, ?_, ⟨by omega⟩, ?_⟩
          · repeat' ((conv => whnf); first | with_reducible exact True.intro | exact vW | with_reducible refine And.intro ?_ ?_)
          repeat' ((conv => whnf); first | refine vA ?_ | with_reducible first | refine vS ?_ | refine vR ?_ | refine vB ?_ | refine br_nt ?_ | refine br_tt ?_ | refine br_ff ?_ | refine vP ?_ | refine vQ ?_ | refine vT ?_ | refine vF ?_ | refine br_and ?_ | refine br_or ?_ | refine br_d (fun _ => ?_) fun _ => ?_ | refine vM (fun _ => ?_) fun _ => ?_)
          refine ⟨i, ?_, ⟨by unfold i64r; omega⟩, ?_⟩
          · repeat' ((conv => whnf); first | with_reducible exact True.intro | exact vW | with_reducible refine And.intro ?_ ?_)
          repeat' ((conv => whnf); first | refine vA ?_ | with_reducible first | refine vS ?_ | refine vR ?_ | refine vB ?_ | refine br_nt ?_ | refine br_tt ?_ | refine br_ff ?_ | refine vP ?_ | refine vQ ?_ | refine vT ?_ | refine vF ?_ | refine br_and ?_ | refine br_or ?_ | refine br_d (fun _ => ?_) fun _ => ?_ | refine vM (fun _ => ?_) fun _ => ?_)
          refine ⟨p - 1 - heads (i : Int).toNat, ?_, ⟨by omega⟩, ?_⟩
          · repeat' ((conv => whnf); first | with_reducible exact True.intro | exact vW | with_reducible refine And.intro ?_ ?_)
          have ho' : 0 ≤ fac ((heads (i : Int).toNat : Nat) : Int).toNat * fac (p - 1 - heads (i : Int).toNat).toNat ∧ fac ((heads (i : Int).toNat : Nat) : Int).toNat * fac (p - 1 - heads (i : Int).toNat).toNat ≤ 518400 := ho
          repeat' ((conv => whnf); first | with_reducible refine Wr.ex (wi64 (by omega) (by omega)) ?_ | refine vA ?_ | with_reducible first | refine vS ?_ | refine vR ?_ | refine vB ?_ | refine br_nt ?_ | refine br_tt ?_ | refine br_ff ?_ | refine vP ?_ | refine vQ ?_ | refine vT ?_ | refine vF ?_ | refine br_and ?_ | refine br_or ?_ | refine br_d (fun _ => ?_) fun _ => ?_ | refine vM (fun _ => ?_) fun _ => ?_)
          refine ⟨i + 1, by show i + 1 ≤ (pw p).toNat; omega, by show (pw p).toNat - (i + 1) < (pw p).toNat - i; omega, ⟨⟨[some 0], [], rfl, rfl, ?_, ?_⟩⟩⟩
          · repeat' ((conv => whnf); first | with_reducible exact True.intro | exact vW | with_reducible refine And.intro ?_ ?_)
            all_goals exact Chk.mk e
          · repeat' ((conv => whnf); first | with_reducible exact True.intro | exact vW | with_reducible refine And.intro ?_ ?_)
        · rename_i hv
          have e : sumO p (swl bs t w (i + 1)) = sumO p (swl bs t w i) := by rw [swl, if_neg (by rw [hv]; exact Bool.false_ne_true)]
          refine ⟨i + 1, by show i + 1 ≤ (pw p).toNat; omega, by show (pw p).toNat - (i + 1) < (pw p).toNat - i; omega, ⟨⟨[some 0], [], rfl, rfl, ?_, ?_⟩⟩⟩
          · repeat' ((conv => whnf); first | with_reducible exact True.intro | exact vW | with_reducible refine And.intro ?_ ?_)
            all_goals exact Chk.mk e
          · repeat' ((conv => whnf); first | with_reducible exact True.intro | exact vW | with_reducible refine And.intro ?_ ?_)
      · rename_i hi
        rw [pw_sh pp] at hi
        rw [show (pw p).toNat = i by omega] at h
        exact h
    · rename_i hb
      replace hb : ¬ (0 ≤ w ∧ w ≤ p - 1) := hb
      rw [if_neg (fun q => hb ⟨q.2.1, by have := q.2.2; omega⟩)] at h
      exact h
  · rename_i hO
    rw [if_neg (fun q => hO q.1)] at h
    exact h
def C5 : List AV → (AV → Prop) → Prop := con (X := Ox) (fun x => [enH x.h, slM x.t, .int .i64 x.who]) (fun x => termI x.h x.t ∧ i64r x.who) fun _ K => K (.bool true)
theorem F5 : FF 5 C5 := by
  refine fitE [(9, C9), (10, C10), (12, C12), (13, C13), (16, C16), (17, C17), (25, C25), (26, C26)] (by simp only [List.mem_cons, List.not_mem_nil, or_false]; rintro _ (rfl | rfl | rfl | rfl | rfl | rfl | rfl | rfl) <;> first | exact F9 | exact F10 | exact F12 | exact F13 | exact F16 | exact F17 | exact F25 | exact F26) Try.f5 ⟨rfl, by decide +kernel, by decide +kernel⟩ (fun _ _ _ hk h => hk _ h) ?_
  rintro ⟨⟨p, bs⟩, t, w⟩ K ⟨hT, h3⟩ h
  refine ⟨Nat.le_of_ble_eq_true rfl, ?_⟩
  dsimp only at hT h3 h ⊢
  have h4 : bs.length < 9223372036854775808 := hT.2.1
  have h5 := hT.2.2.2
  repeat' ((conv => whnf); first | refine vA ?_ | with_reducible first | refine vS ?_ | refine vR ?_ | refine vB ?_ | refine br_nt ?_ | refine br_tt ?_ | refine br_ff ?_ | refine vP ?_ | refine vQ ?_ | refine vT ?_ | refine vF ?_ | refine br_and ?_ | refine br_or ?_ | refine br_d (fun _ => ?_) fun _ => ?_ | refine vM (fun _ => ?_) fun _ => ?_)
  refine ⟨(⟨p, bs⟩, 1048576), ?_, ⟨h4, (by decide : (0 : Int) ≤ 1048576), (by decide : (1048576 : Int) ≤ 9223372036854775807)⟩, ?_⟩
  · repeat' ((conv => whnf); first | with_reducible exact True.intro | exact vW | with_reducible refine And.intro ?_ ?_)
  dsimp only
  by_cases hb : (1048576 : Int) - bs.length < 0
  · rw [if_pos hb]
    repeat' ((conv => whnf); first | refine vA ?_ | with_reducible first | refine vS ?_ | refine vR ?_ | refine vB ?_ | refine br_nt ?_ | refine br_tt ?_ | refine br_ff ?_ | refine vP ?_ | refine vQ ?_ | refine vT ?_ | refine vF ?_ | refine br_and ?_ | refine br_or ?_ | refine br_d (fun _ => ?_) fun _ => ?_ | refine vM (fun _ => ?_) fun _ => ?_)
    exact h
  rw [if_neg hb]
  repeat' ((conv => whnf); first | refine vA ?_ | with_reducible first | refine vS ?_ | refine vR ?_ | refine vB ?_ | refine br_nt ?_ | refine br_tt ?_ | refine br_ff ?_ | refine vP ?_ | refine vQ ?_ | refine vT ?_ | refine vF ?_ | refine br_and ?_ | refine br_or ?_ | refine br_d (fun _ => ?_) fun _ => ?_ | refine vM (fun _ => ?_) fun _ => ?_)
  refine ⟨(t, 1048576 - bs.length), ?_, ⟨h5, by show 0 ≤ (1048576 : Int) - bs.length; omega, by show (1048576 : Int) - bs.length ≤ _; omega⟩, ?_⟩
  · repeat' ((conv => whnf); first | with_reducible exact True.intro | exact vW | with_reducible refine And.intro ?_ ?_)
  dsimp only
  by_cases ht : (1048576 : Int) - bs.length - t.length < 0
  · rw [if_pos ht]
    repeat' ((conv => whnf); first | refine vA ?_ | with_reducible first | refine vS ?_ | refine vR ?_ | refine vB ?_ | refine br_nt ?_ | refine br_tt ?_ | refine br_ff ?_ | refine vP ?_ | refine vQ ?_ | refine vT ?_ | refine vF ?_ | refine br_and ?_ | refine br_or ?_ | refine br_d (fun _ => ?_) fun _ => ?_ | refine vM (fun _ => ?_) fun _ => ?_)
    exact h
  rw [if_neg ht]
  have b1 : bs.length ≤ 1048576 := by omega
  have b2 : t.length ≤ 1048576 := by omega
  repeat' ((conv => whnf); first | refine vA ?_ | with_reducible first | refine vS ?_ | refine vR ?_ | refine vB ?_ | refine br_nt ?_ | refine br_tt ?_ | refine br_ff ?_ | refine vP ?_ | refine vQ ?_ | refine vT ?_ | refine vF ?_ | refine br_and ?_ | refine br_or ?_ | refine br_d (fun _ => ?_) fun _ => ?_ | refine vM (fun _ => ?_) fun _ => ?_)
  refine ⟨⟨p, bs⟩, ?_, ⟨b1⟩, ?_⟩
  · repeat' ((conv => whnf); first | with_reducible exact True.intro | exact vW | with_reducible refine And.intro ?_ ?_)
  repeat' ((conv => whnf); first | refine vA ?_ | with_reducible first | refine vS ?_ | refine vR ?_ | refine vB ?_ | refine br_nt ?_ | refine br_tt ?_ | refine br_ff ?_ | refine vP ?_ | refine vQ ?_ | refine vT ?_ | refine vF ?_ | refine br_and ?_ | refine br_or ?_ | refine br_d (fun _ => ?_) fun _ => ?_ | refine vM (fun _ => ?_) fun _ => ?_)
  refine ⟨t, ?_, ⟨b2⟩, ?_⟩
  · repeat' ((conv => whnf); first | with_reducible exact True.intro | exact vW | with_reducible refine And.intro ?_ ?_)
  repeat' ((conv => whnf); first | refine vA ?_ | with_reducible first | refine vS ?_ | refine vR ?_ | refine vB ?_ | refine br_nt ?_ | refine br_tt ?_ | refine br_ff ?_ | refine vP ?_ | refine vQ ?_ | refine vT ?_ | refine vF ?_ | refine br_and ?_ | refine br_or ?_ | refine br_d (fun _ => ?_) fun _ => ?_ | refine vM (fun _ => ?_) fun _ => ?_)
  refine ⟨⟨⟨p, bs⟩, t, w⟩, ?_, ⟨hT, h3⟩, ?_⟩
  · repeat' ((conv => whnf); first | with_reducible exact True.intro | exact vW | with_reducible refine And.intro ?_ ?_)
  dsimp only
  obtain ⟨v, hv⟩ : ∃ v, pivotsOf ⟨⟨p, bs⟩, t, w⟩ = v := ⟨_, rfl⟩
  rw [hv]
  repeat' ((conv => whnf); first | refine vA ?_ | with_reducible first | refine vS ?_ | refine vR ?_ | refine vB ?_ | refine br_nt ?_ | refine br_tt ?_ | refine br_ff ?_ | refine vP ?_ | refine vQ ?_ | refine vT ?_ | refine vF ?_ | refine br_and ?_ | refine br_or ?_ | refine br_d (fun _ => ?_) fun _ => ?_ | refine vM (fun _ => ?_) fun _ => ?_)
  refine ⟨⟨p, bs⟩, ?_, ⟨b1⟩, ?_⟩
  · repeat' ((conv => whnf); first | with_reducible exact True.intro | exact vW | with_reducible refine And.intro ?_ ?_)
  repeat' ((conv => whnf); first | refine vA ?_ | with_reducible first | refine vS ?_ | refine vR ?_ | refine vB ?_ | refine br_nt ?_ | refine br_tt ?_ | refine br_ff ?_ | refine vP ?_ | refine vQ ?_ | refine vT ?_ | refine vF ?_ | refine br_and ?_ | refine br_or ?_ | refine br_d (fun _ => ?_) fun _ => ?_ | refine vM (fun _ => ?_) fun _ => ?_)
  refine ⟨t, ?_, ⟨b2⟩, ?_⟩
  · repeat' ((conv => whnf); first | with_reducible exact True.intro | exact vW | with_reducible refine And.intro ?_ ?_)
  repeat' ((conv => whnf); first | refine vA ?_ | with_reducible first | refine vS ?_ | refine vR ?_ | refine vB ?_ | refine br_nt ?_ | refine br_tt ?_ | refine br_ff ?_ | refine vP ?_ | refine vQ ?_ | refine vT ?_ | refine vF ?_ | refine br_and ?_ | refine br_or ?_ | refine br_d (fun _ => ?_) fun _ => ?_ | refine vM (fun _ => ?_) fun _ => ?_)
  refine ⟨⟨⟨p, bs⟩, t, w⟩, ?_, ⟨hT, h3⟩, ?_⟩
  · repeat' ((conv => whnf); first | with_reducible exact True.intro | exact vW | with_reducible refine And.intro ?_ ?_)
  dsimp only
  rw [hv]
  repeat' ((conv => whnf); first | refine vA ?_ | with_reducible first | refine vS ?_ | refine vR ?_ | refine vB ?_ | refine br_nt ?_ | refine br_tt ?_ | refine br_ff ?_ | refine vP ?_ | refine vQ ?_ | refine vT ?_ | refine vF ?_ | refine br_and ?_ | refine br_or ?_ | refine br_d (fun _ => ?_) fun _ => ?_ | refine vM (fun _ => ?_) fun _ => ?_)
  refine Dr.mk ⟨[0, 1, 2, 3, 4], by decide +kernel, ?_⟩
  repeat' ((conv => whnf); first | refine vA ?_ | with_reducible first | refine vS ?_ | refine vR ?_ | refine vB ?_ | refine br_nt ?_ | refine br_tt ?_ | refine br_ff ?_ | refine vP ?_ | refine vQ ?_ | refine vT ?_ | refine vF ?_ | refine br_and ?_ | refine br_or ?_ | refine br_d (fun _ => ?_) fun _ => ?_ | refine vM (fun _ => ?_) fun _ => ?_)
  refine ⟨⟨p, bs⟩, ?_, ⟨b1⟩, ?_⟩
  · repeat' ((conv => whnf); first | with_reducible exact True.intro | exact vW | with_reducible refine And.intro ?_ ?_)
  repeat' ((conv => whnf); first | refine vA ?_ | with_reducible first | refine vS ?_ | refine vR ?_ | refine vB ?_ | refine br_nt ?_ | refine br_tt ?_ | refine br_ff ?_ | refine vP ?_ | refine vQ ?_ | refine vT ?_ | refine vF ?_ | refine br_and ?_ | refine br_or ?_ | refine br_d (fun _ => ?_) fun _ => ?_ | refine vM (fun _ => ?_) fun _ => ?_)
  refine ⟨⟨p, bs⟩, ?_, ⟨b1⟩, ?_⟩
  · repeat' ((conv => whnf); first | with_reducible exact True.intro | exact vW | with_reducible refine And.intro ?_ ?_)
  repeat' ((conv => whnf); first | refine vA ?_ | with_reducible first | refine vS ?_ | refine vR ?_ | refine vB ?_ | refine br_nt ?_ | refine br_tt ?_ | refine br_ff ?_ | refine vP ?_ | refine vQ ?_ | refine vT ?_ | refine vF ?_ | refine br_and ?_ | refine br_or ?_ | refine br_d (fun _ => ?_) fun _ => ?_ | refine vM (fun _ => ?_) fun _ => ?_)
  refine ⟨t, ?_, ⟨b2⟩, ?_⟩
  · repeat' ((conv => whnf); first | with_reducible exact True.intro | exact vW | with_reducible refine And.intro ?_ ?_)
  repeat' ((conv => whnf); first | refine vA ?_ | with_reducible first | refine vS ?_ | refine vR ?_ | refine vB ?_ | refine br_nt ?_ | refine br_tt ?_ | refine br_ff ?_ | refine vP ?_ | refine vQ ?_ | refine vT ?_ | refine vF ?_ | refine br_and ?_ | refine br_or ?_ | refine br_d (fun _ => ?_) fun _ => ?_ | refine vM (fun _ => ?_) fun _ => ?_)
  refine ⟨t, ?_, ⟨b2⟩, ?_⟩
  · repeat' ((conv => whnf); first | with_reducible exact True.intro | exact vW | with_reducible refine And.intro ?_ ?_)
  repeat' ((conv => whnf); first | refine vA ?_ | with_reducible first | refine vS ?_ | refine vR ?_ | refine vB ?_ | refine br_nt ?_ | refine br_tt ?_ | refine br_ff ?_ | refine vP ?_ | refine vQ ?_ | refine vT ?_ | refine vF ?_ | refine br_and ?_ | refine br_or ?_ | refine br_d (fun _ => ?_) fun _ => ?_ | refine vM (fun _ => ?_) fun _ => ?_)
  exact h
end Go.Proofs.Ytbbgojaloebknaa.Vc
