/- Part Z: terms. -/
import Derived.Test.YtbbgojaloebknaaVcY
namespace Go.Proofs.Ytbbgojaloebknaa.Vc
open Go.Proofs
set_option maxRecDepth 10000
set_option maxHeartbeats 4000000
def C33 := C38
theorem F33 : FF 33 C33 := by
  refine fitE [(35, C35), (48, C48), (55, C55)] (by simp only [List.mem_cons, List.not_mem_nil, or_false]; rintro _ (rfl | rfl | rfl) <;> first | exact F35 | exact F48 | exact F55) Try.f33 ⟨rfl, by decide +kernel, by decide +kernel⟩ (fun _ _ _ hk h => hk _ h) ?_
  rintro ⟨⟨p, bs⟩, t⟩ K ⟨h1, h2, h3, h4⟩ h
  refine ⟨Nat.le_of_ble_eq_true rfl, ?_⟩
  dsimp only at h h1 h2 h3 h4 ⊢
  repeat' ((conv => whnf); first | refine vA ?_ | with_reducible first | refine vS ?_ | refine vR ?_ | refine vB ?_ | refine br_nt ?_ | refine br_tt ?_ | refine br_ff ?_ | refine vP ?_ | refine vQ ?_ | refine vT ?_ | refine vF ?_ | refine br_and ?_ | refine br_or ?_ | refine br_d (fun _ => ?_) fun _ => ?_ | refine vM (fun _ => ?_) fun _ => ?_)
  refine Lp.mk ⟨Nat × Nat, fun x => [(1, slM t), (2, .ptr 0 0), (4, .bool false), (5, .int .i64 x.2), (6, .int .i64 x.1)], fun _ => [.box [.int .i64 p, slI bs]], fun x => x.1 ≤ t.length ∧ walkP bs (t.take x.1) 0 = some x.2, fun x => t.length - x.1, ⟨(0, 0), ⟨Nat.zero_le _, rfl⟩, ⟨⟨[some 0], [], rfl, rfl, ?_, ?_⟩⟩⟩, ?_⟩
  · repeat' ((conv => whnf); first | with_reducible exact True.intro | exact vW | with_reducible refine And.intro ?_ ?_)
  · repeat' ((conv => whnf); first | with_reducible exact True.intro | exact vW | with_reducible refine And.intro ?_ ?_)
  rintro ⟨i, k⟩ ⟨i1, i2⟩
  dsimp only at i1 i2 ⊢
  have kle : k ≤ i := by
    have := walkP_le bs _ _ _ i2
    simp only [List.length_take] at this
    omega
  have bad : i < t.length → stepP bs (t.getD i default) k = none → ¬ termOk ⟨p, bs⟩ t := fun hi e q => by
    have := walkP_none (h := bs) (t := t) (i := i + 1) (by rw [walkP_take hi i2, e])
    rw [q.2.2] at this
    cases this
  have good : ∀ k', i < t.length → stepP bs (t.getD i default) k = some k' → walkP bs (t.take (i + 1)) 0 = some k' := fun k' hi e => by rw [walkP_take hi i2, e]
  repeat' ((conv => whnf); first | refine vA ?_ | with_reducible first | refine vS ?_ | refine vR ?_ | refine vB ?_ | refine br_nt ?_ | refine br_tt ?_ | refine br_ff ?_ | refine vP ?_ | refine vQ ?_ | refine vT ?_ | refine vF ?_ | refine br_and ?_ | refine br_or ?_ | refine br_d (fun _ => ?_) fun _ => ?_ | refine vM (fun _ => ?_) fun _ => ?_)
  · refine Dr.mk ⟨[0, 1, 2, 3, 4, 5, 6, 7, 8, 9, 10, 11, 12, 13, 14, 15, 16, 17, 18, 19, 20, 21, 22, 23, 24, 25, 26, 27, 28, 29, 30, 31, 32, 33, 34, 35, 36], by decide +kernel, ?_⟩
    repeat' ((conv => whnf); first | refine vA ?_ | with_reducible first | refine vS ?_ | refine vR ?_ | refine vB ?_ | refine br_nt ?_ | refine br_tt ?_ | refine br_ff ?_ | refine vP ?_ | refine vQ ?_ | refine vT ?_ | refine vF ?_ | refine br_and ?_ | refine br_or ?_ | refine br_d (fun _ => ?_) fun _ => ?_ | refine vM (fun _ => ?_) fun _ => ?_)
    refine ⟨((t.getD (i : Int).toNat default).at_, 0, bs.length - 1), ?_, ⟨trivial⟩, ?_⟩
    · repeat' ((conv => whnf); first | with_reducible exact True.intro | exact vW | with_reducible refine And.intro ?_ ?_)
    dsimp only
    repeat' ((conv => whnf); first | refine vA ?_ | with_reducible first | refine vS ?_ | refine vR ?_ | refine vB ?_ | refine br_nt ?_ | refine br_tt ?_ | refine br_ff ?_ | refine vP ?_ | refine vQ ?_ | refine vT ?_ | refine vF ?_ | refine br_and ?_ | refine br_or ?_ | refine br_d (fun _ => ?_) fun _ => ?_ | refine vM (fun _ => ?_) fun _ => ?_)
    · rename_i g1
      have hb : (t.getD (i : Int).toNat default).at_.toNat < bs.length := by omega
      refine ⟨bs.getD (t.getD (i : Int).toNat default).at_.toNat 0, ?_, ⟨h1.2 _ (getD_mem' hb)⟩, ?_⟩
      · repeat' ((conv => whnf); first | with_reducible exact True.intro | exact vW | with_reducible refine And.intro ?_ ?_)
      repeat' ((conv => whnf); first | refine vA ?_ | with_reducible first | refine vS ?_ | refine vR ?_ | refine vB ?_ | refine br_nt ?_ | refine br_tt ?_ | refine br_ff ?_ | refine vP ?_ | refine vQ ?_ | refine vT ?_ | refine vF ?_ | refine br_and ?_ | refine br_or ?_ | refine br_d (fun _ => ?_) fun _ => ?_ | refine vM (fun _ => ?_) fun _ => ?_)
      refine ⟨((t.getD (i : Int).toNat default).need, 1, heads (bs.getD (t.getD (i : Int).toNat default).at_.toNat 0).toNat), ?_, ⟨trivial⟩, ?_⟩
      · repeat' ((conv => whnf); first | with_reducible exact True.intro | exact vW | with_reducible refine And.intro ?_ ?_)
      dsimp only
      repeat' ((conv => whnf); first | refine vA ?_ | with_reducible first | refine vS ?_ | refine vR ?_ | refine vB ?_ | refine br_nt ?_ | refine br_tt ?_ | refine br_ff ?_ | refine vP ?_ | refine vQ ?_ | refine vT ?_ | refine vF ?_ | refine br_and ?_ | refine br_or ?_ | refine br_d (fun _ => ?_) fun _ => ?_ | refine vM (fun _ => ?_) fun _ => ?_)
      · refine ⟨(i + 1, k + 1), ⟨by omega, good (k + 1) (by omega) (by simp only [Int.toNat_natCast] at *; unfold stepP; rw [if_pos (by omega)])⟩, by show t.length - (i + 1) < t.length - i; omega, ⟨⟨[some 0], [], rfl, rfl, ?_, ?_⟩⟩⟩
        · repeat' ((conv => whnf); first | with_reducible exact True.intro | exact vW | with_reducible refine And.intro ?_ ?_)
        · repeat' ((conv => whnf); first | with_reducible exact True.intro | exact vW | with_reducible refine And.intro ?_ ?_)
      all_goals try (refine yesF h (bad (by omega) ?_); simp only [Int.toNat_natCast] at *; unfold stepP; rw [if_neg (by omega), if_neg (by omega)]; done)
    all_goals try (refine yesF h (bad (by omega) ?_); simp only [Int.toNat_natCast] at *; unfold stepP; rw [if_neg (by omega), if_neg (by omega)]; done)
    · refine ⟨(i + 1, k - 1), ⟨by omega, good (k - 1) (by omega) (by simp only [Int.toNat_natCast] at *; unfold stepP; rw [if_neg (by omega), if_pos (by omega)])⟩, by show t.length - (i + 1) < t.length - i; omega, ⟨⟨[some 0], [], rfl, rfl, ?_, ?_⟩⟩⟩
      · repeat' ((conv => whnf); first | with_reducible exact True.intro | exact vW | with_reducible refine And.intro ?_ ?_)
      · repeat' ((conv => whnf); first | with_reducible exact True.intro | exact vW | with_reducible refine And.intro ?_ ?_)
    · refine ⟨(i + 1, k - 1), ⟨by omega, good (k - 1) (by omega) (by simp only [Int.toNat_natCast] at *; unfold stepP; rw [if_neg (by omega), if_pos (by omega)])⟩, by show t.length - (i + 1) < t.length - i; omega, ⟨⟨[some 0], [], rfl, rfl, ?_, ?_⟩⟩⟩
      · repeat' ((conv => whnf); first | with_reducible exact True.intro | exact vW | with_reducible refine And.intro ?_ ?_)
      · repeat' ((conv => whnf); first | with_reducible exact True.intro | exact vW | with_reducible refine And.intro ?_ ?_)
  · refine ⟨⟨p, bs⟩, ?_, ⟨h1, h2⟩, ?_⟩
    · repeat' ((conv => whnf); first | with_reducible exact True.intro | exact vW | with_reducible refine And.intro ?_ ?_)
    have e : walkP bs t 0 = some k := by rw [List.take_of_length_le (by omega)] at i2; exact i2
    repeat' ((conv => whnf); first | refine vA ?_ | with_reducible first | refine vS ?_ | refine vR ?_ | refine vB ?_ | refine br_nt ?_ | refine br_tt ?_ | refine br_ff ?_ | refine vP ?_ | refine vQ ?_ | refine vT ?_ | refine vF ?_ | refine br_and ?_ | refine br_or ?_ | refine br_d (fun _ => ?_) fun _ => ?_ | refine vM (fun _ => ?_) fun _ => ?_)
    · rename_i hO hk
      exact yesD h ⟨fun q => by have := q.2.1; omega, fun q => ⟨hO, by show t.length ≤ 9; omega, by show walkP bs t 0 = some 1; rw [e, show k = 1 by omega]⟩⟩
    · rename_i hO hk
      refine yesF h fun q => ?_
      have := q.2.2
      rw [e] at this
      injection this with this
      omega
    · rename_i hO
      exact yesF h fun q => hO q.1
end Go.Proofs.Ytbbgojaloebknaa.Vc
