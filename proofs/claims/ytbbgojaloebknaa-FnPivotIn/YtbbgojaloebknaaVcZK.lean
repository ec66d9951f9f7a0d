/- Part ZK: orders. -/
import Derived.Test.YtbbgojaloebknaaVcZJ
namespace Go.Proofs.Ytbbgojaloebknaa.Vc
open Go.Proofs
set_option maxRecDepth 10000
set_option maxHeartbeats 4000000
def fac : Nat → Int
  | 0 => 1
  | k + 1 => fac k * (k + 1)
theorem fac_le : ∀ k, k < 7 → 1 ≤ fac k ∧ fac k ≤ 720 := by decide +kernel
def C49 : List AV → (AV → Prop) → Prop := con (X := Int) (fun n => [.int .i64 n]) (fun n => -64 ≤ n ∧ n ≤ 6) fun n K => K (.int .i64 (fac n.toNat))
theorem F49 : FF 49 C49 := by
  refine fitE [] (by simp) Try.f49 ⟨rfl, by decide +kernel, by decide +kernel⟩ (fun _ _ _ hk h => hk _ h) ?_
  rintro n K ⟨h1, h2⟩ h
  refine ⟨Nat.le_of_ble_eq_true rfl, ?_⟩
  repeat' ((conv => whnf); first | refine vA ?_ | with_reducible first | refine vS ?_ | refine vR ?_ | refine vB ?_ | refine br_nt ?_ | refine br_tt ?_ | refine br_ff ?_ | refine vP ?_ | refine vQ ?_ | refine vT ?_ | refine vF ?_ | refine br_and ?_ | refine br_or ?_ | refine br_d (fun _ => ?_) fun _ => ?_ | refine vM (fun _ => ?_) fun _ => ?_)
  refine Lp.mk ⟨Nat, fun i => [(0, .int .i64 n), (3, .int .i64 (fac (i + 1))), (4, .int .i64 (i + 2))], fun _ => [], fun i => i = 0 ∨ (i : Int) + 1 ≤ n, fun i => 7 - i, ⟨0, .inl rfl, ⟨⟨[], [], rfl, rfl, ?_, ?_⟩⟩⟩, ?_⟩
  · repeat' ((conv => whnf); first | with_reducible exact True.intro | exact vW | with_reducible refine And.intro ?_ ?_)
  · repeat' ((conv => whnf); first | with_reducible exact True.intro | exact vW | with_reducible refine And.intro ?_ ?_)
  intro i i1
  have hf : i + 1 < 7 := by omega
  have hb := fac_le (i + 1) hf
  have hm : fac (i + 1) * ((i : Int) + 2) = fac (i + 2) := by
    rw [show ((i : Int) + 2) = (((i + 1 : Nat) : Int) + 1) by omega]
    rfl
  dsimp only
  repeat' ((conv => whnf); first | ((with_reducible refine Wr.ex (wi64 ?_ ?_) ?_); (focus (have := fac_le (i + 2) (by omega); rw [hm]; omega)); (focus (have := fac_le (i + 2) (by omega); rw [hm]; omega))) | refine vA ?_ | with_reducible first | refine vS ?_ | refine vR ?_ | refine vB ?_ | refine br_nt ?_ | refine br_tt ?_ | refine br_ff ?_ | refine vP ?_ | refine vQ ?_ | refine vT ?_ | refine vF ?_ | refine br_and ?_ | refine br_or ?_ | refine br_d (fun _ => ?_) fun _ => ?_ | refine vM (fun _ => ?_) fun _ => ?_)
  · refine ⟨i + 1, .inr (by omega), by show 7 - (i + 1) < 7 - i; omega, ⟨⟨[], [], rfl, rfl, ?_, ?_⟩⟩⟩
    · repeat' ((conv => whnf); first | with_reducible exact True.intro | exact vW | with_reducible refine And.intro ?_ ?_)
      all_goals first | exact Chk.mk hm | exact Chk.mk hm.symm | exact Chk.mk (by omega)
    · repeat' ((conv => whnf); first | with_reducible exact True.intro | exact vW | with_reducible refine And.intro ?_ ?_)
  · have e : fac (i + 1) = fac n.toNat := by
      rcases i1 with rfl | i1
      · rcases Int.lt_or_le n 1 with hn | hn
        · rw [show n.toNat = 0 by omega]; rfl
        · rw [show n.toNat = 1 by omega]
      · rw [show n.toNat = i + 1 by omega]
    rw [e]
    exact h
def C47 := C49
theorem F47 : FF 47 C47 := by
  refine fitE [] (by simp) Try.f47 ⟨rfl, by decide +kernel, by decide +kernel⟩ (fun _ _ _ hk h => hk _ h) ?_
  rintro n K ⟨h1, h2⟩ h
  refine ⟨Nat.le_of_ble_eq_true rfl, ?_⟩
  repeat' ((conv => whnf); first | refine vA ?_ | with_reducible first | refine vS ?_ | refine vR ?_ | refine vB ?_ | refine br_nt ?_ | refine br_tt ?_ | refine br_ff ?_ | refine vP ?_ | refine vQ ?_ | refine vT ?_ | refine vF ?_ | refine br_and ?_ | refine br_or ?_ | refine br_d (fun _ => ?_) fun _ => ?_ | refine vM (fun _ => ?_) fun _ => ?_)
  refine Lp.mk ⟨Nat, fun i => [(0, .int .i64 n), (3, .int .i64 (fac (i + 1))), (4, .int .i64 (i + 2))], fun _ => [], fun i => i = 0 ∨ (i : Int) + 1 ≤ n, fun i => 7 - i, ⟨0, .inl rfl, ⟨⟨[], [], rfl, rfl, ?_, ?_⟩⟩⟩, ?_⟩
  · repeat' ((conv => whnf); first | with_reducible exact True.intro | exact vW | with_reducible refine And.intro ?_ ?_)
  · repeat' ((conv => whnf); first | with_reducible exact True.intro | exact vW | with_reducible refine And.intro ?_ ?_)
  intro i i1
  have hf : i + 1 < 7 := by omega
  have hb := fac_le (i + 1) hf
  have hm : fac (i + 1) * ((i : Int) + 2) = fac (i + 2) := by
    rw [show ((i : Int) + 2) = (((i + 1 : Nat) : Int) + 1) by omega]
    rfl
  dsimp only
  repeat' ((conv => whnf); first | ((with_reducible refine Wr.ex (wi64 ?_ ?_) ?_); (focus (have := fac_le (i + 2) (by omega); rw [hm]; omega)); (focus (have := fac_le (i + 2) (by omega); rw [hm]; omega))) | refine vA ?_ | with_reducible first | refine vS ?_ | refine vR ?_ | refine vB ?_ | refine br_nt ?_ | refine br_tt ?_ | refine br_ff ?_ | refine vP ?_ | refine vQ ?_ | refine vT ?_ | refine vF ?_ | refine br_and ?_ | refine br_or ?_ | refine br_d (fun _ => ?_) fun _ => ?_ | refine vM (fun _ => ?_) fun _ => ?_)
  · refine ⟨i + 1, .inr (by omega), by show 7 - (i + 1) < 7 - i; omega, ⟨⟨[], [], rfl, rfl, ?_, ?_⟩⟩⟩
    · repeat' ((conv => whnf); first | with_reducible exact True.intro | exact vW | with_reducible refine And.intro ?_ ?_)
      all_goals first | exact Chk.mk hm | exact Chk.mk hm.symm | exact Chk.mk (by omega)
    · repeat' ((conv => whnf); first | with_reducible exact True.intro | exact vW | with_reducible refine And.intro ?_ ?_)
  · have e : fac (i + 1) = fac n.toNat := by
      rcases i1 with rfl | i1
      · rcases Int.lt_or_le n 1 with hn | hn
        · rw [show n.toNat = 0 by omega]; rfl
        · rw [show n.toNat = 1 by omega]
      · rw [show n.toNat = i + 1 by omega]
    rw [e]
    exact h
end Go.Proofs.Ytbbgojaloebknaa.Vc
