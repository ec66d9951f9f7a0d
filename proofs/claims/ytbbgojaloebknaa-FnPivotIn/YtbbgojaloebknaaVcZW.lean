/- Part ZW: the laws FnSwingsOf and FnPivotsOf. -/
import Derived.Test.YtbbgojaloebknaaVcZS
import Derived.Test.YtbbgojaloebknaaVcZR
namespace Go.Proofs.Ytbbgojaloebknaa.Vc
open Go.Proofs
set_option maxRecDepth 10000
set_option maxHeartbeats 4000000
abbrev lawB : List AV → (AV → Prop) → Prop := con (X := List Int) (fun l => [slB l]) (fun l => (∀ n ∈ l, u8r n) ∧ l.length < 9223372036854775808) fun _ K => K (.bool true)
theorem dual_i64 {h : House} {t : List Mark} (hd : Drawn h t) (hO : termOk h t) : termI h (dualT h.bs t) := by
  obtain ⟨i1, i2, i3, i4⟩ := hd.i64
  refine ⟨i1, i2, fun m hm => ?_, by rw [dualT, List.length_map]; exact i4⟩
  obtain ⟨x, hx, rfl⟩ := List.mem_map.1 hm
  have hi := i3 x hx
  have hg := walk_good t 0 1 hO.2.2 x hx
  have hh := heads_le (h.bs.getD x.at_.toNat 0).toNat
  unfold dualM Mark.i64 i64r at *
  rcases hg with ⟨g0, g1, g2, g3, g4⟩ | g | g
  · rw [if_pos g0]; dsimp only; omega
  · rw [if_neg (by omega), if_pos g]; dsimp only; omega
  · rw [if_neg (by omega), if_neg (by omega)]; dsimp only; omega
def C4 := lawB
theorem F4 : FF 4 C4 := by
  refine fitE [(19, C19), (20, C20), (21, C21), (22, C22), (23, C23), (24, C24)] (by simp only [List.mem_cons, List.not_mem_nil, or_false]; rintro _ (rfl | rfl | rfl | rfl | rfl | rfl) <;> first | exact F19 | exact F20 | exact F21 | exact F22 | exact F23 | exact F24) Try.f4 ⟨rfl, by decide +kernel, by decide +kernel⟩ (fun _ _ _ hk h => hk _ h) ?_
  rintro l K ⟨h1, h2⟩ h
  refine ⟨Nat.le_of_ble_eq_true rfl, ?_⟩
  repeat' ((conv => whnf); first | refine vA ?_ | with_reducible first | refine vS ?_ | refine vR ?_ | refine vB ?_ | refine br_nt ?_ | refine br_tt ?_ | refine br_ff ?_ | refine vP ?_ | refine vQ ?_ | refine vT ?_ | refine vF ?_ | refine br_and ?_ | refine br_or ?_ | refine br_d (fun _ => ?_) fun _ => ?_ | refine vM (fun _ => ?_) fun _ => ?_)
  · exact h
  refine ⟨l, ?_, ⟨h1, h2⟩, ?_⟩
  · repeat' ((conv => whnf); first | with_reducible exact True.intro | exact vW | with_reducible refine And.intro ?_ ?_)
  rintro ⟨p, bs⟩ t w hd w1 w2
  have hI := hd.i64
  have hwI : i64r w := by unfold i64r; omega
  repeat' ((conv => whnf); first | refine vA ?_ | with_reducible first | refine vS ?_ | refine vR ?_ | refine vB ?_ | refine br_nt ?_ | refine br_tt ?_ | refine br_ff ?_ | refine vP ?_ | refine vQ ?_ | refine vT ?_ | refine vF ?_ | refine br_and ?_ | refine br_or ?_ | refine br_d (fun _ => ?_) fun _ => ?_ | refine vM (fun _ => ?_) fun _ => ?_)
  refine ⟨⟨⟨p, bs⟩, t, w⟩, ?_, ⟨hI, hwI⟩, ?_⟩
  · repeat' ((conv => whnf); first | with_reducible exact True.intro | exact vW | with_reducible refine And.intro ?_ ?_)
  dsimp only
  obtain ⟨v, hv⟩ : ∃ v, swingsOf ⟨⟨p, bs⟩, t, w⟩ = v := ⟨_, rfl⟩
  rw [hv]
  repeat' ((conv => whnf); first | refine vA ?_ | with_reducible first | refine vS ?_ | refine vR ?_ | refine vB ?_ | refine br_nt ?_ | refine br_tt ?_ | refine br_ff ?_ | refine vP ?_ | refine vQ ?_ | refine vT ?_ | refine vF ?_ | refine br_and ?_ | refine br_or ?_ | refine br_d (fun _ => ?_) fun _ => ?_ | refine vM (fun _ => ?_) fun _ => ?_)
  refine ⟨⟨⟨p, bs⟩, t, w⟩, ?_, ⟨hI, hwI⟩, ?_⟩
  · repeat' ((conv => whnf); first | with_reducible exact True.intro | exact vW | with_reducible refine And.intro ?_ ?_)
  dsimp only
  rw [hv]
  repeat' ((conv => whnf); first | refine vA ?_ | with_reducible first | refine vS ?_ | refine vR ?_ | refine vB ?_ | refine br_nt ?_ | refine br_tt ?_ | refine br_ff ?_ | refine vP ?_ | refine vQ ?_ | refine vT ?_ | refine vF ?_ | refine br_and ?_ | refine br_or ?_ | refine br_d (fun _ => ?_) fun _ => ?_ | refine vM (fun _ => ?_) fun _ => ?_)
  · refine ⟨(), ?_, ⟨trivial⟩, ?_⟩
    · repeat' ((conv => whnf); first | with_reducible exact True.intro | exact vW | with_reducible refine And.intro ?_ ?_)
    repeat' ((conv => whnf); first | refine vA ?_ | with_reducible first | refine vS ?_ | refine vR ?_ | refine vB ?_ | refine br_nt ?_ | refine br_tt ?_ | refine br_ff ?_ | refine vP ?_ | refine vQ ?_ | refine vT ?_ | refine vF ?_ | refine br_and ?_ | refine br_or ?_ | refine br_d (fun _ => ?_) fun _ => ?_ | refine vM (fun _ => ?_) fun _ => ?_)
    exact h
  · rename_i g1 g2
    unfold swingsOf at hv
    split at hv <;> omega
  · rename_i g1
    have hc : termOk ⟨p, bs⟩ t ∧ 0 ≤ w ∧ w < p := by
      unfold swingsOf at hv
      split at hv
      · assumption
      · omega
    obtain ⟨hO, w3, w4⟩ := hc
    have pp : people p := hO.1.1
    have hp := pp.2
    have hp1 := pp.1
    have hl : ((swl bs t w (pw p).toNat).length : Int) = v := by
      unfold swingsOf at hv
      rw [if_pos ⟨hO, w3, w4⟩] at hv
      exact hv
    have W : Who p w.toNat := ⟨pp, by omega⟩
    have ew : ((w.toNat : Nat) : Int) = w := by omega
    have ld := len_dual hO W
    rw [ew] at ld
    have hv2 : swingsOf ⟨⟨p, bs⟩, dualT bs t, w⟩ = v := by
      unfold swingsOf
      rw [if_pos ⟨termOk_dual hO, w3, w4⟩]
      show ((swl bs (dualT bs t) w (pw p).toNat).length : Int) = v
      omega
    have hh := len_half (t := t) (bs := bs) W
    rw [ew, hl] at hh
    have hi := idle_has bs t (pw p).toNat p.toNat (by omega) w.toNat (by omega)
    have hsh : (1 : Int) * 2 ^ min (p - 1).toNat IntKind.i64.bits = ((2 ^ (p.toNat - 1) : Nat) : Int) := by
      rcases people_cases pp with rfl | rfl | rfl | rfl | rfl | rfl <;> rfl
    rw [ew] at hi
    refine Dr.mk ⟨[0, 1, 2, 4, 6, 3, 5, 7, 8, 9, 10, 11, 12, 14, 13, 15, 16, 17, 18, 19, 20, 21, 22, 23, 24, 25, 26, 27, 28], by decide +kernel, ?_⟩
    repeat' ((conv => whnf); first | refine vA ?_ | with_reducible first | refine vS ?_ | refine vR ?_ | refine vB ?_ | refine br_nt ?_ | refine br_tt ?_ | refine br_ff ?_ | refine vP ?_ | refine vQ ?_ | refine vT ?_ | refine vF ?_ | refine br_and ?_ | refine br_or ?_ | refine br_d (fun _ => ?_) fun _ => ?_ | refine vM (fun _ => ?_) fun _ => ?_)
    refine ⟨(⟨p, bs⟩, t), ?_, ⟨hI, hO⟩, ?_⟩
    · repeat' ((conv => whnf); first | with_reducible exact True.intro | exact vW | with_reducible refine And.intro ?_ ?_)
    repeat' ((conv => whnf); first | refine vA ?_ | with_reducible first | refine vS ?_ | refine vR ?_ | refine vB ?_ | refine br_nt ?_ | refine br_tt ?_ | refine br_ff ?_ | refine vP ?_ | refine vQ ?_ | refine vT ?_ | refine vF ?_ | refine br_and ?_ | refine br_or ?_ | refine br_d (fun _ => ?_) fun _ => ?_ | refine vM (fun _ => ?_) fun _ => ?_)
    refine ⟨⟨⟨p, bs⟩, dualT bs t, w⟩, ?_, ⟨dual_i64 hd hO, hwI⟩, ?_⟩
    · repeat' ((conv => whnf); first | with_reducible exact True.intro | exact vW | with_reducible refine And.intro ?_ ?_)
    dsimp only
    rw [hv2]
    repeat' ((conv => whnf); first | refine vA ?_ | with_reducible first | refine vS ?_ | refine vR ?_ | refine vB ?_ | refine br_nt ?_ | refine br_tt ?_ | refine br_ff ?_ | refine vP ?_ | refine vQ ?_ | refine vT ?_ | refine vF ?_ | refine br_and ?_ | refine br_or ?_ | refine br_d (fun _ => ?_) fun _ => ?_ | refine vM (fun _ => ?_) fun _ => ?_)
    refine ⟨(⟨p, bs⟩, t), ?_, ⟨hI, hO⟩, ?_⟩
    · repeat' ((conv => whnf); first | with_reducible exact True.intro | exact vW | with_reducible refine And.intro ?_ ?_)
    repeat' ((conv => whnf); first | with_reducible refine Wr.ex (wshw (by omega) (by omega)) ?_ | refine vA ?_ | with_reducible first | refine vS ?_ | refine vR ?_ | refine vB ?_ | refine br_nt ?_ | refine br_tt ?_ | refine br_ff ?_ | refine vP ?_ | refine vQ ?_ | refine vT ?_ | refine vF ?_ | refine br_and ?_ | refine br_or ?_ | refine br_d (fun _ => ?_) fun _ => ?_ | refine vM (fun _ => ?_) fun _ => ?_)
    · rw [hsh, decide_eq_true hh]
      exact h
    · rename_i hx
      have key : (decide (v = 0) == decide ((shrv .i64 (idleF bs t (pw p).toNat p.toNat) w).tmod 2 = 1)) = true := by
        have : decide ((shrv .i64 (idleF bs t (pw p).toNat p.toNat) w).tmod 2 = 1) = decide (v = 0) := by
          show has (idleF bs t (pw p).toNat p.toNat) w = _
          rw [hi, decide_eq_true (show w.toNat < p.toNat by omega), Bool.true_and, decide_eq_decide]
          omega
        rw [this]
        exact beq_self_eq_true _
      rw [key] at hx
      cases hx
def C7 := lawB
theorem F7 : FF 7 C7 := by
  refine fitE [(29, C29), (26, C26), (25, C25), (22, C22), (23, C23)] (by simp only [List.mem_cons, List.not_mem_nil, or_false]; rintro _ (rfl | rfl | rfl | rfl | rfl) <;> first | exact F29 | exact F26 | exact F25 | exact F22 | exact F23) Try.f7 ⟨rfl, by decide +kernel, by decide +kernel⟩ (fun _ _ _ hk h => hk _ h) ?_
  rintro l K ⟨h1, h2⟩ h
  refine ⟨Nat.le_of_ble_eq_true rfl, ?_⟩
  repeat' ((conv => whnf); first | refine vA ?_ | with_reducible first | refine vS ?_ | refine vR ?_ | refine vB ?_ | refine br_nt ?_ | refine br_tt ?_ | refine br_ff ?_ | refine vP ?_ | refine vQ ?_ | refine vT ?_ | refine vF ?_ | refine br_and ?_ | refine br_or ?_ | refine br_d (fun _ => ?_) fun _ => ?_ | refine vM (fun _ => ?_) fun _ => ?_)
  · exact h
  refine ⟨l, ?_, ⟨h1, h2⟩, ?_⟩
  · repeat' ((conv => whnf); first | with_reducible exact True.intro | exact vW | with_reducible refine And.intro ?_ ?_)
  rintro ⟨p, bs⟩ t w hd w1 w2
  have hI := hd.i64
  have hwI : i64r w := by unfold i64r; omega
  repeat' ((conv => whnf); first | refine vA ?_ | with_reducible first | refine vS ?_ | refine vR ?_ | refine vB ?_ | refine br_nt ?_ | refine br_tt ?_ | refine br_ff ?_ | refine vP ?_ | refine vQ ?_ | refine vT ?_ | refine vF ?_ | refine br_and ?_ | refine br_or ?_ | refine br_d (fun _ => ?_) fun _ => ?_ | refine vM (fun _ => ?_) fun _ => ?_)
  refine ⟨⟨⟨p, bs⟩, t, w⟩, ?_, ⟨hI, hwI⟩, ?_⟩
  · repeat' ((conv => whnf); first | with_reducible exact True.intro | exact vW | with_reducible refine And.intro ?_ ?_)
  dsimp only
  obtain ⟨v, hv⟩ : ∃ v, pivotsOf ⟨⟨p, bs⟩, t, w⟩ = v := ⟨_, rfl⟩
  rw [hv]
  repeat' ((conv => whnf); first | refine vA ?_ | with_reducible first | refine vS ?_ | refine vR ?_ | refine vB ?_ | refine br_nt ?_ | refine br_tt ?_ | refine br_ff ?_ | refine vP ?_ | refine vQ ?_ | refine vT ?_ | refine vF ?_ | refine br_and ?_ | refine br_or ?_ | refine br_d (fun _ => ?_) fun _ => ?_ | refine vM (fun _ => ?_) fun _ => ?_)
  refine ⟨⟨⟨p, bs⟩, t, w⟩, ?_, ⟨hI, hwI⟩, ?_⟩
  · repeat' ((conv => whnf); first | with_reducible exact True.intro | exact vW | with_reducible refine And.intro ?_ ?_)
  dsimp only
  rw [hv]
  have hsum : ∀ k, 0 ≤ sumO p (swl bs t w k) ∨ ¬ (termOk ⟨p, bs⟩ t ∧ 0 ≤ w ∧ w < p) ∨ 64 < k := fun k => by
    by_cases hk : 64 < k
    · exact .inr (.inr hk)
    by_cases hc : termOk ⟨p, bs⟩ t ∧ 0 ≤ w ∧ w < p
    · have hp := hc.1.1.1.2
      exact .inl (sumO_le hp _ fun c hc => by have := swl_lt bs t w k c hc; omega).1
    · exact .inr (.inl hc)
  have h64 : ¬ people p ∨ (pw p).toNat ≤ 64 := by
    by_cases hp : people p
    · have := pw_le hp; exact .inr (by omega)
    · exact .inl hp
  repeat' ((conv => whnf); first | refine vA ?_ | with_reducible first | refine vS ?_ | refine vR ?_ | refine vB ?_ | refine br_nt ?_ | refine br_tt ?_ | refine br_ff ?_ | refine vP ?_ | refine vQ ?_ | refine vT ?_ | refine vF ?_ | refine br_and ?_ | refine br_or ?_ | refine br_d (fun _ => ?_) fun _ => ?_ | refine vM (fun _ => ?_) fun _ => ?_)
  · refine ⟨(), ?_, ⟨trivial⟩, ?_⟩
    · repeat' ((conv => whnf); first | with_reducible exact True.intro | exact vW | with_reducible refine And.intro ?_ ?_)
    repeat' ((conv => whnf); first | refine vA ?_ | with_reducible first | refine vS ?_ | refine vR ?_ | refine vB ?_ | refine br_nt ?_ | refine br_tt ?_ | refine br_ff ?_ | refine vP ?_ | refine vQ ?_ | refine vT ?_ | refine vF ?_ | refine br_and ?_ | refine br_or ?_ | refine br_d (fun _ => ?_) fun _ => ?_ | refine vM (fun _ => ?_) fun _ => ?_)
    exact h
  · rename_i g1 g2
    unfold pivotsOf at hv
    split at hv
    · rename_i hc
      dsimp only at hc hv
      rcases hsum (pw p).toNat with q | q | q
      · omega
      · exact absurd hc q
      · rcases h64 with r | r
        · exact absurd hc.1.1.1 r
        · omega
    · omega
  · rename_i g1
    have hc : termOk ⟨p, bs⟩ t ∧ 0 ≤ w ∧ w < p := by
      unfold pivotsOf at hv
      split at hv
      · assumption
      · omega
    clear hsum h64
    obtain ⟨hO, w3, w4⟩ := hc
    have pp : people p := hO.1.1
    have hp := pp.2
    have hp1 := pp.1
    have pl := pw_le pp
    have hl : sumO p (swl bs t w (pw p).toNat) = v := by
      unfold pivotsOf at hv
      rw [if_pos ⟨hO, w3, w4⟩] at hv
      exact hv
    have W : Who p w.toNat := ⟨pp, by omega⟩
    have ew : ((w.toNat : Nat) : Int) = w := by omega
    have sd := sum_dual hO W
    rw [ew] at sd
    have hv2 : pivotsOf ⟨⟨p, bs⟩, dualT bs t, w⟩ = v := by
      unfold pivotsOf
      rw [if_pos ⟨termOk_dual hO, w3, w4⟩]
      show sumO p (swl bs (dualT bs t) w (pw p).toNat) = v
      omega
    have hall := sum_all hO
    have hone : ∀ k : Nat, k < p.toNat → pivotsOf ⟨⟨p, bs⟩, t, k⟩ = sumO p (swl bs t k (pw p).toNat) := fun k hk => by
      unfold pivotsOf
      rw [if_pos ⟨hO, by show (0 : Int) ≤ k; omega, by show (k : Int) < p; omega⟩]
    have hpart : ∀ k : Nat, k ≤ p.toNat → 0 ≤ sumF (fun w => sumO p (swl bs t (w : Int) (pw p).toNat)) k ∧ sumF (fun w => sumO p (swl bs t (w : Int) (pw p).toNat)) k ≤ 33177600 * k := fun k hk => by
      induction k with
      | zero => exact ⟨Int.le_refl 0, Int.le_refl 0⟩
      | succ k ih =>
        have i1 := ih (by omega)
        have i2 := sumO_le hp (swl bs t (k : Int) (pw p).toNat) fun c hc => by have := swl_lt bs t (k : Int) (pw p).toNat c hc; omega
        have i3 := swl_le bs t (k : Int) (pw p).toNat
        rw [sumF]
        omega
    refine Lp.mk ⟨Nat, fun i => [(3, .ptr 0 0), (4, slM t), (5, .int .i64 w), (6, .int .i64 v), (7, .int .i64 (sumF (fun w => sumO p (swl bs t (w : Int) (pw p).toNat)) i)), (8, .int .i64 (fac i)), (9, .int .i64 i)],
      fun i => [.box [.int .i64 p, slI bs]], fun i => i ≤ p.toNat, fun i => p.toNat - i, ⟨0, Nat.zero_le _, ⟨⟨[some 0], [], rfl, rfl, ?_, ?_⟩⟩⟩, ?_⟩
    · repeat' ((conv => whnf); first | with_reducible exact True.intro | exact vW | with_reducible refine And.intro ?_ ?_)
    · repeat' ((conv => whnf); first | with_reducible exact True.intro | exact vW | with_reducible refine And.intro ?_ ?_)
    intro i i1
    dsimp only
    have hpi := hpart i i1
    repeat' ((conv => whnf); first | refine vA ?_ | with_reducible first | refine vS ?_ | refine vR ?_ | refine vB ?_ | refine br_nt ?_ | refine br_tt ?_ | refine br_ff ?_ | refine vP ?_ | refine vQ ?_ | refine vT ?_ | refine vF ?_ | refine br_and ?_ | refine br_or ?_ | refine br_d (fun _ => ?_) fun _ => ?_ | refine vM (fun _ => ?_) fun _ => ?_)
    · rename_i hi
      have hpi1 := hpart (i + 1) (by omega)
      rw [sumF] at hpi1
      have hf := fac_le i (by omega)
      have hf1 := fac_le (i + 1) (by omega)
      rw [fac] at hf1
      refine ⟨⟨⟨p, bs⟩, t, i⟩, ?_, ⟨hI, by unfold i64r; dsimp only; omega⟩, ?_⟩
      · repeat' ((conv => whnf); first | with_reducible exact True.intro | exact vW | with_reducible refine And.intro ?_ ?_)
      dsimp only
      rw [hone i (by omega)]
      repeat' ((conv => whnf); first | with_reducible refine Wr.ex (wi64 (by omega) (by omega)) ?_ | refine vA ?_ | with_reducible first | refine vS ?_ | refine vR ?_ | refine vB ?_ | refine br_nt ?_ | refine br_tt ?_ | refine br_ff ?_ | refine vP ?_ | refine vQ ?_ | refine vT ?_ | refine vF ?_ | refine br_and ?_ | refine br_or ?_ | refine br_d (fun _ => ?_) fun _ => ?_ | refine vM (fun _ => ?_) fun _ => ?_)
      refine ⟨i + 1, by show i + 1 ≤ p.toNat; omega, by show p.toNat - (i + 1) < p.toNat - i; omega, ⟨⟨[some 0], [], rfl, rfl, ?_, ?_⟩⟩⟩
      · repeat' ((conv => whnf); first | with_reducible exact True.intro | exact vW | with_reducible refine And.intro ?_ ?_)
      · repeat' ((conv => whnf); first | with_reducible exact True.intro | exact vW | with_reducible refine And.intro ?_ ?_)
    · have ei : i = p.toNat := by omega
      subst ei
      rw [hall]
      refine Dr.mk ⟨[0, 1, 2, 3, 4, 5, 6, 8, 10, 7, 9, 11, 12, 13], by decide +kernel, ?_⟩
      repeat' ((conv => whnf); first | refine vA ?_ | with_reducible first | refine vS ?_ | refine vR ?_ | refine vB ?_ | refine br_nt ?_ | refine br_tt ?_ | refine br_ff ?_ | refine vP ?_ | refine vQ ?_ | refine vT ?_ | refine vF ?_ | refine br_and ?_ | refine br_or ?_ | refine br_d (fun _ => ?_) fun _ => ?_ | refine vM (fun _ => ?_) fun _ => ?_)
      refine ⟨(⟨p, bs⟩, t), ?_, ⟨hI, hO⟩, ?_⟩
      · repeat' ((conv => whnf); first | with_reducible exact True.intro | exact vW | with_reducible refine And.intro ?_ ?_)
      repeat' ((conv => whnf); first | refine vA ?_ | with_reducible first | refine vS ?_ | refine vR ?_ | refine vB ?_ | refine br_nt ?_ | refine br_tt ?_ | refine br_ff ?_ | refine vP ?_ | refine vQ ?_ | refine vT ?_ | refine vF ?_ | refine br_and ?_ | refine br_or ?_ | refine br_d (fun _ => ?_) fun _ => ?_ | refine vM (fun _ => ?_) fun _ => ?_)
      refine ⟨⟨⟨p, bs⟩, dualT bs t, w⟩, ?_, ⟨dual_i64 hd hO, hwI⟩, ?_⟩
      · repeat' ((conv => whnf); first | with_reducible exact True.intro | exact vW | with_reducible refine And.intro ?_ ?_)
      dsimp only
      rw [hv2]
      repeat' ((conv => whnf); first | refine vA ?_ | with_reducible first | refine vS ?_ | refine vR ?_ | refine vB ?_ | refine br_nt ?_ | refine br_tt ?_ | refine br_ff ?_ | refine vP ?_ | refine vQ ?_ | refine vT ?_ | refine vF ?_ | refine br_and ?_ | refine br_or ?_ | refine br_d (fun _ => ?_) fun _ => ?_ | refine vM (fun _ => ?_) fun _ => ?_)
      rw [decide_eq_true rfl]
      exact h
end Go.Proofs.Ytbbgojaloebknaa.Vc
