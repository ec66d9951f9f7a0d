/- Part ZP: houses and terms that are drawn. -/
import Derived.Test.YtbbgojaloebknaaVcZO
namespace Go.Proofs.Ytbbgojaloebknaa.Vc
open Go.Proofs
set_option maxRecDepth 10000
set_option maxHeartbeats 4000000
theorem td8 {a : Int} (h : 0 ≤ a) : a.tdiv 8 = a / 8 := Int.tdiv_eq_ediv_of_nonneg h
def C59 : GC := conG (X := Rd × Int) (fun x => [.ptr 0 0, .int .i64 x.2]) (fun x => [.box [slB x.1.b, .int .i64 x.1.p]]) (fun x => x.1.okn 500000000 ∧ i64r x.2) fun x K => ∀ (h : House) (p' : Int), x.1.p ≤ p' → p' ≤ x.1.p + 20 → 0 ≤ h.p ∧ h.p ≤ 7 → h.bs.length ≤ 4 → (∀ b ∈ h.bs, 0 ≤ b ∧ b ≤ 64) → K (enH h) [.box [slB x.1.b, .int .i64 p']]
theorem F59 : GG 59 C59 := by
  refine fitG [] (by simp) [(52, C52), (53, C53)] (by simp only [List.mem_cons, List.not_mem_nil, or_false]; rintro _ (rfl | rfl) <;> first | exact F52 | exact F53) Try.f59 ⟨rfl, by decide +kernel, by decide +kernel⟩ (by intro x K K2 hk h; (try dsimp only at h ⊢); intros; apply hk; first | exact h | (apply h <;> assumption)) ?_
  rintro ⟨⟨b, p⟩, n⟩ K ⟨⟨h1, h2, h3, h4⟩, h5⟩ h
  refine ⟨Nat.le_of_ble_eq_true rfl, ?_⟩
  dsimp only at h h1 h2 h3 h4 h5 ⊢
  repeat' ((conv => whnf); first | refine vA ?_ | with_reducible first | refine vS ?_ | refine vR ?_ | refine vB ?_ | refine br_nt ?_ | refine br_tt ?_ | refine br_ff ?_ | refine vP ?_ | refine vQ ?_ | refine vT ?_ | refine vF ?_ | refine br_and ?_ | refine br_or ?_ | refine br_d (fun _ => ?_) fun _ => ?_ | refine vM (fun _ => ?_) fun _ => ?_)
  refine ⟨_, _, [0], [], rfl, ?_, ?_, (⟨b, p⟩, 5), rfl, rfl, ⟨⟨h1, h2, ?_, ?_⟩, ?_⟩, ?_⟩
  · repeat' ((conv => whnf); first | with_reducible exact True.intro | exact vW | with_reducible refine And.intro ?_ ?_)
    try exact Chk.mk (by rw [pw_sh (by assumption)])
  · repeat' ((conv => whnf); first | with_reducible exact True.intro | exact vW | with_reducible refine And.intro ?_ ?_)
  · dsimp only; omega
  · dsimp only; omega
  · unfold i64r; dsimp only; omega
  intro k1 p1 a0 a1 a2
  dsimp only at a0 a1 a2
  repeat' ((conv => whnf); first | refine vA ?_ | with_reducible first | refine vS ?_ | refine vR ?_ | refine vB ?_ | refine br_nt ?_ | refine br_tt ?_ | refine br_ff ?_ | refine vP ?_ | refine vQ ?_ | refine vT ?_ | refine vF ?_ | refine br_and ?_ | refine br_or ?_ | refine br_d (fun _ => ?_) fun _ => ?_ | refine vM (fun _ => ?_) fun _ => ?_)
  refine ⟨_, _, [0], [], rfl, ?_, ?_, (⟨b, p1⟩, 9), rfl, rfl, ⟨⟨h1, h2, ?_, ?_⟩, ?_⟩, ?_⟩
  · repeat' ((conv => whnf); first | with_reducible exact True.intro | exact vW | with_reducible refine And.intro ?_ ?_)
    try exact Chk.mk (by rw [pw_sh (by assumption)])
  · repeat' ((conv => whnf); first | with_reducible exact True.intro | exact vW | with_reducible refine And.intro ?_ ?_)
  · dsimp only; omega
  · dsimp only; omega
  · unfold i64r; dsimp only; omega
  intro k2 p2 b0 b1 b2
  dsimp only at b0 b1 b2
  have e8 := td8 (a := k2) (by omega)
  obtain ⟨P, hP⟩ : ∃ P, 1 + k1 + k2.tdiv 8 = P := ⟨_, rfl⟩
  have pp : people P := by unfold people; omega
  have pw2 := pw_le pp
  repeat' ((conv => whnf); first | refine vA ?_ | with_reducible first | refine vS ?_ | refine vR ?_ | refine vB ?_ | refine br_nt ?_ | refine br_tt ?_ | refine br_ff ?_ | refine vP ?_ | refine vQ ?_ | refine vT ?_ | refine vF ?_ | refine br_and ?_ | refine br_or ?_ | refine br_d (fun _ => ?_) fun _ => ?_ | refine vM (fun _ => ?_) fun _ => ?_)
  rw [hP]
  repeat' ((conv => whnf); first | refine vA ?_ | with_reducible first | refine vS ?_ | refine vR ?_ | refine vB ?_ | refine br_nt ?_ | refine br_tt ?_ | refine br_ff ?_ | refine vP ?_ | refine vQ ?_ | refine vT ?_ | refine vF ?_ | refine br_and ?_ | refine br_or ?_ | refine br_d (fun _ => ?_) fun _ => ?_ | refine vM (fun _ => ?_) fun _ => ?_)
  refine ⟨_, _, [0], [], rfl, ?_, ?_, (⟨b, p2⟩, 3), rfl, rfl, ⟨⟨h1, h2, ?_, ?_⟩, ?_⟩, ?_⟩
  · repeat' ((conv => whnf); first | with_reducible exact True.intro | exact vW | with_reducible refine And.intro ?_ ?_)
    try exact Chk.mk (by rw [pw_sh (by assumption)])
  · repeat' ((conv => whnf); first | with_reducible exact True.intro | exact vW | with_reducible refine And.intro ?_ ?_)
  · dsimp only; omega
  · dsimp only; omega
  · unfold i64r; dsimp only; omega
  intro k3 p3 c0 c1 c2
  dsimp only at c0 c1 c2
  repeat' ((conv => whnf); first | refine vA ?_ | with_reducible first | refine vS ?_ | refine vR ?_ | refine vB ?_ | refine br_nt ?_ | refine br_tt ?_ | refine br_ff ?_ | refine vP ?_ | refine vQ ?_ | refine vT ?_ | refine vF ?_ | refine br_and ?_ | refine br_or ?_ | refine br_d (fun _ => ?_) fun _ => ?_ | refine vM (fun _ => ?_) fun _ => ?_)
  refine Lp.mk ⟨List Int × Int × Int, fun x => [(0, .ptr 0 0), (1, .int .i64 n), (4, .ptr 1 0), (5, .ptr 2 0), (6, .int .i64 x.2.1)],
    fun x => [rdO b x.2.2, .box [.int .i64 0, .nils], .box [.int .i64 P, .row 3 1 0 x.1.length], .row 1 x.1.length fun j => encI (x.1.getD j 0)],
    fun x => 0 ≤ x.2.1 ∧ x.2.1 + x.1.length = 1 + k3 ∧ x.2.2 = p3 + x.1.length ∧ ∀ b ∈ x.1, 0 ≤ b ∧ b ≤ 64, fun x => x.2.1.toNat, ⟨([], 1 + k3, p3), ⟨by show 0 ≤ 1 + k3; omega, by simp, by simp, by simp⟩, ⟨⟨[some 0, some 1, some 2, none], [], rfl, rfl, ?_, ?_⟩⟩⟩, ?_⟩
  · repeat' ((conv => whnf); first | with_reducible exact True.intro | exact vW | with_reducible refine And.intro ?_ ?_)
  · repeat' ((conv => whnf); first | with_reducible exact True.intro | exact vW | with_reducible refine And.intro ?_ ?_)
  rintro ⟨l, j, q⟩ ⟨i1, i2, i3, i4⟩
  dsimp only at i1 i2 i3 i4 ⊢
  repeat' ((conv => whnf); first | refine vA ?_ | with_reducible first | refine vS ?_ | refine vR ?_ | refine vB ?_ | refine br_nt ?_ | refine br_tt ?_ | refine br_ff ?_ | refine vP ?_ | refine vQ ?_ | refine vT ?_ | refine vF ?_ | refine br_and ?_ | refine br_or ?_ | refine br_d (fun _ => ?_) fun _ => ?_ | refine vM (fun _ => ?_) fun _ => ?_)
  · refine Dr.mk ⟨[0, 1, 2, 3, 4, 5, 6, 7, 8, 9, 10, 11, 12], by decide +kernel, ?_⟩
    repeat' ((conv => whnf); first | with_reducible refine Wr.ex (wsh pp) ?_ | with_reducible refine Wr.ex (wi64 (by rw [pw_sh pp]; omega) (by rw [pw_sh pp]; omega)) ?_ | refine vA ?_ | with_reducible first | refine vS ?_ | refine vR ?_ | refine vB ?_ | refine br_nt ?_ | refine br_tt ?_ | refine br_ff ?_ | refine vP ?_ | refine vQ ?_ | refine vT ?_ | refine vF ?_ | refine br_and ?_ | refine br_or ?_ | refine br_d (fun _ => ?_) fun _ => ?_ | refine vM (fun _ => ?_) fun _ => ?_)
    refine ⟨_, _, [0], [], rfl, ?_, ?_, (⟨b, q⟩, (pw P - 1)), rfl, rfl, ⟨⟨h1, h2, ?_, ?_⟩, ?_⟩, ?_⟩
    · repeat' ((conv => whnf); first | with_reducible exact True.intro | exact vW | with_reducible refine And.intro ?_ ?_)
      try exact Chk.mk (by rw [pw_sh (by assumption)])
    · repeat' ((conv => whnf); first | with_reducible exact True.intro | exact vW | with_reducible refine And.intro ?_ ?_)
    · dsimp only; omega
    · dsimp only; omega
    · unfold i64r; dsimp only; omega
    intro k4 p4 d0 d1 d2
    dsimp only at d0 d1 d2
    repeat' ((conv => whnf); first | refine vA ?_ | with_reducible first | refine vS ?_ | refine vR ?_ | refine vB ?_ | refine br_nt ?_ | refine br_tt ?_ | refine br_ff ?_ | refine vP ?_ | refine vQ ?_ | refine vT ?_ | refine vF ?_ | refine br_and ?_ | refine br_or ?_ | refine br_d (fun _ => ?_) fun _ => ?_ | refine vM (fun _ => ?_) fun _ => ?_)
    refine ⟨(l ++ [1 + k4], j - 1, p4), ⟨by show 0 ≤ j - 1; omega, by simp; omega, by simp; omega, ?_⟩, by show (j - 1).toNat < j.toNat; omega, ⟨⟨[some 0, some 1, some 2, some 5], [], rfl, rfl, ?_, ?_⟩⟩⟩
    · intro v hv
      rcases List.mem_append.1 hv with hv | hv
      · exact i4 v hv
      · simp at hv; omega
    · repeat' ((conv => whnf); first | with_reducible exact True.intro | exact vW | with_reducible refine And.intro ?_ ?_)
    · repeat' ((conv => whnf); first | with_reducible exact True.intro | exact vW | with_reducible refine And.intro ?_ ?_)
      all_goals exact Chk.mk (app_ext rfl)
  · refine ⟨_, _, [0], [], rfl, ?_, ?_, (⟨b, q⟩, n), rfl, rfl, ⟨⟨h1, h2, ?_, ?_⟩, h5⟩, ?_⟩
    · repeat' ((conv => whnf); first | with_reducible exact True.intro | exact vW | with_reducible refine And.intro ?_ ?_)
    · repeat' ((conv => whnf); first | with_reducible exact True.intro | exact vW | with_reducible refine And.intro ?_ ?_)
    · dsimp only; omega
    · dsimp only; omega
    intro v p5 g1 g2
    dsimp only at g1 g2
    repeat' ((conv => whnf); first | refine vA ?_ | with_reducible first | refine vS ?_ | refine vR ?_ | refine vB ?_ | refine br_nt ?_ | refine br_tt ?_ | refine br_ff ?_ | refine vP ?_ | refine vQ ?_ | refine vT ?_ | refine vF ?_ | refine br_and ?_ | refine br_or ?_ | refine br_d (fun _ => ?_) fun _ => ?_ | refine vM (fun _ => ?_) fun _ => ?_)
    · refine ⟨_, _, [0], [], rfl, ?_, ?_, (⟨b, p5⟩, 3), rfl, rfl, ⟨⟨h1, h2, ?_, ?_⟩, ?_⟩, ?_⟩
      · repeat' ((conv => whnf); first | with_reducible exact True.intro | exact vW | with_reducible refine And.intro ?_ ?_)
        try exact Chk.mk (by rw [pw_sh (by assumption)])
      · repeat' ((conv => whnf); first | with_reducible exact True.intro | exact vW | with_reducible refine And.intro ?_ ?_)
      · dsimp only; omega
      · dsimp only; omega
      · unfold i64r; dsimp only; omega
      intro k6 p6 e0 e1 e2
      dsimp only at e0 e1 e2
      repeat' ((conv => whnf); first | refine vA ?_ | with_reducible first | refine vS ?_ | refine vR ?_ | refine vB ?_ | refine br_nt ?_ | refine br_tt ?_ | refine br_ff ?_ | refine vP ?_ | refine vQ ?_ | refine vT ?_ | refine vF ?_ | refine br_and ?_ | refine br_or ?_ | refine br_d (fun _ => ?_) fun _ => ?_ | refine vM (fun _ => ?_) fun _ => ?_)
      · refine ⟨_, _, [0], [], rfl, ?_, ?_, (⟨b, p6⟩, 2), rfl, rfl, ⟨⟨h1, h2, ?_, ?_⟩, ?_⟩, ?_⟩
        · repeat' ((conv => whnf); first | with_reducible exact True.intro | exact vW | with_reducible refine And.intro ?_ ?_)
          try exact Chk.mk (by rw [pw_sh (by assumption)])
        · repeat' ((conv => whnf); first | with_reducible exact True.intro | exact vW | with_reducible refine And.intro ?_ ?_)
        · dsimp only; omega
        · dsimp only; omega
        · unfold i64r; dsimp only; omega
        intro k7 p7 f0 f1 f2
        dsimp only at f0 f1 f2
        rcases (show k7 = 0 ∨ k7 = 1 by omega) with rfl | rfl
        · repeat' ((conv => whnf); first | refine vA ?_ | with_reducible first | refine vS ?_ | refine vR ?_ | refine vB ?_ | refine br_nt ?_ | refine br_tt ?_ | refine br_ff ?_ | refine vP ?_ | refine vQ ?_ | refine vT ?_ | refine vF ?_ | refine br_and ?_ | refine br_or ?_ | refine br_d (fun _ => ?_) fun _ => ?_ | refine vM (fun _ => ?_) fun _ => ?_)
          refine ⟨_, _, [some 0], [3], rfl, rfl, ?_, ?_, h ⟨0, l⟩ p7 (by omega) (by omega) (by show (0:Int) ≤ 0 ∧ (0:Int) ≤ 7; decide) (by show l.length ≤ 4; omega) i4⟩
          · repeat' ((conv => whnf); first | with_reducible exact True.intro | exact vW | with_reducible refine And.intro ?_ ?_)
          · repeat' ((conv => whnf); first | with_reducible exact True.intro | exact vW | with_reducible refine And.intro ?_ ?_)
        · repeat' ((conv => whnf); first | refine vA ?_ | with_reducible first | refine vS ?_ | refine vR ?_ | refine vB ?_ | refine br_nt ?_ | refine br_tt ?_ | refine br_ff ?_ | refine vP ?_ | refine vQ ?_ | refine vT ?_ | refine vF ?_ | refine br_and ?_ | refine br_or ?_ | refine br_d (fun _ => ?_) fun _ => ?_ | refine vM (fun _ => ?_) fun _ => ?_)
          refine ⟨_, _, [some 0], [3], rfl, rfl, ?_, ?_, h ⟨7, l⟩ p7 (by omega) (by omega) (by show (0:Int) ≤ 7 ∧ (7:Int) ≤ 7; decide) (by show l.length ≤ 4; omega) i4⟩
          · repeat' ((conv => whnf); first | with_reducible exact True.intro | exact vW | with_reducible refine And.intro ?_ ?_)
          · repeat' ((conv => whnf); first | with_reducible exact True.intro | exact vW | with_reducible refine And.intro ?_ ?_)
      · refine ⟨_, _, [some 0], [5], rfl, rfl, ?_, ?_, h ⟨P, l ++ [0]⟩ p6 (by omega) (by omega) ?_ ?_ ?_⟩
        · repeat' ((conv => whnf); first | with_reducible exact True.intro | exact vW | with_reducible refine And.intro ?_ ?_)
          all_goals exact Chk.mk ⟨by simp, by simp, fun i hi => by rw [Nat.zero_add]; exact (app_ext rfl).2 i hi⟩
        · repeat' ((conv => whnf); first | with_reducible exact True.intro | exact vW | with_reducible refine And.intro ?_ ?_)
        · show 0 ≤ P ∧ P ≤ 7
          unfold people at pp; omega
        · show (l ++ [0]).length ≤ 4
          simp; omega
        · intro v hv
          rcases List.mem_append.1 hv with hv | hv
          · exact i4 v hv
          · simp at hv; omega
      · refine ⟨_, _, [some 0], [], rfl, rfl, ?_, ?_, h ⟨P, []⟩ p6 (by omega) (by omega) ⟨by show 0 ≤ P; unfold people at pp; omega, by show P ≤ 7; unfold people at pp; omega⟩ (by show 0 ≤ 4; omega) (fun _ hb => by cases hb)⟩
        · repeat' ((conv => whnf); first | with_reducible exact True.intro | exact vW | with_reducible refine And.intro ?_ ?_)
        · repeat' ((conv => whnf); first | with_reducible exact True.intro | exact vW | with_reducible refine And.intro ?_ ?_)
    · refine ⟨_, _, [some 0], [3], rfl, rfl, ?_, ?_, h ⟨P, l⟩ p5 (by omega) (by omega) (by show 0 ≤ P ∧ P ≤ 7; unfold people at pp; omega) (by show l.length ≤ 4; omega) i4⟩
      · repeat' ((conv => whnf); first | with_reducible exact True.intro | exact vW | with_reducible refine And.intro ?_ ?_)
      · repeat' ((conv => whnf); first | with_reducible exact True.intro | exact vW | with_reducible refine And.intro ?_ ?_)
end Go.Proofs.Ytbbgojaloebknaa.Vc
