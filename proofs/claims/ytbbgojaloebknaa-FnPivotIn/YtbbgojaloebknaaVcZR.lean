/- Part ZR: what the laws draw. -/
import Derived.Test.YtbbgojaloebknaaVcZQ
namespace Go.Proofs.Ytbbgojaloebknaa.Vc
open Go.Proofs
set_option maxRecDepth 10000
set_option maxHeartbeats 4000000
structure Drawn (h : House) (t : List Mark) : Prop where
  p : 0 ≤ h.p ∧ h.p ≤ 7
  l : h.bs.length ≤ 4
  b : ∀ b ∈ h.bs, 0 ≤ b ∧ b ≤ 64
  tl : t.length ≤ 9
  t : ∀ m ∈ t, m.i64
theorem Drawn.i64 {h : House} {t : List Mark} (d : Drawn h t) : termI h t :=
  ⟨⟨by have := d.p; unfold i64r; omega, fun b hb => by have := d.b b hb; unfold i64r; omega⟩, by have := d.l; omega, d.t, by have := d.tl; omega⟩
def C51 : GC := conG (X := Rd × Int) (fun x => [.ptr 0 0, .int .i64 x.2]) (fun x => [.box [slB x.1.b, .int .i64 x.1.p]]) (fun x => x.1.okn 500000000 ∧ i64r x.2) fun x K => ∀ (h : House) (t : List Mark) (p' : Int), x.1.p ≤ p' → p' ≤ x.1.p + 60 → Drawn h t → K (.tup [enH h, slM t]) [.box [slB x.1.b, .int .i64 p']]
theorem F51 : GG 51 C51 := by
  refine fitG [] (by simp) [(59, C59), (60, C60)] (by simp only [List.mem_cons, List.not_mem_nil, or_false]; rintro _ (rfl | rfl) <;> first | exact F59 | exact F60) Try.f51 ⟨rfl, by decide +kernel, by decide +kernel⟩ (by intro x K K2 hk h; (try dsimp only at h ⊢); intros; apply hk; first | exact h | (apply h <;> assumption)) ?_
  rintro ⟨⟨b, p⟩, n⟩ K ⟨⟨h1, h2, h3, h4⟩, h5⟩ h
  refine ⟨Nat.le_of_ble_eq_true rfl, ?_⟩
  dsimp only at h h1 h2 h3 h4 h5 ⊢
  repeat' ((conv => whnf); first | refine vA ?_ | with_reducible first | refine vS ?_ | refine vR ?_ | refine vB ?_ | refine br_nt ?_ | refine br_tt ?_ | refine br_ff ?_ | refine vP ?_ | refine vQ ?_ | refine vT ?_ | refine vF ?_ | refine br_and ?_ | refine br_or ?_ | refine br_d (fun _ => ?_) fun _ => ?_ | refine vM (fun _ => ?_) fun _ => ?_)
  refine ⟨_, _, [0], [], rfl, ?_, ?_, (⟨b, p⟩, 20), rfl, rfl, ⟨⟨h1, h2, h3, h4⟩, by unfold i64r; dsimp only; omega⟩, ?_⟩
  · repeat' ((conv => whnf); first | with_reducible exact True.intro | exact vW | with_reducible refine And.intro ?_ ?_)
  · repeat' ((conv => whnf); first | with_reducible exact True.intro | exact vW | with_reducible refine And.intro ?_ ?_)
  rintro ⟨hp, bs⟩ p1 a1 a2 a3 a4 a5
  dsimp only at a1 a2 a3 a4 a5
  repeat' ((conv => whnf); first | refine vA ?_ | with_reducible first | refine vS ?_ | refine vR ?_ | refine vB ?_ | refine br_nt ?_ | refine br_tt ?_ | refine br_ff ?_ | refine vP ?_ | refine vQ ?_ | refine vT ?_ | refine vF ?_ | refine br_and ?_ | refine br_or ?_ | refine br_d (fun _ => ?_) fun _ => ?_ | refine vM (fun _ => ?_) fun _ => ?_)
  refine Dr.mk ⟨[0, 1, 2, 3, 4, 5, 6], by decide +kernel, ?_⟩
  repeat' ((conv => whnf); first | refine vA ?_ | with_reducible first | refine vS ?_ | refine vR ?_ | refine vB ?_ | refine br_nt ?_ | refine br_tt ?_ | refine br_ff ?_ | refine vP ?_ | refine vQ ?_ | refine vT ?_ | refine vF ?_ | refine br_and ?_ | refine br_or ?_ | refine br_d (fun _ => ?_) fun _ => ?_ | refine vM (fun _ => ?_) fun _ => ?_)
  refine ⟨_, _, [0], [], rfl, ?_, ?_, ⟨⟨b, p1⟩, ⟨hp, bs⟩, n⟩, rfl, rfl, ⟨⟨h1, h2, by show 0 ≤ p1; omega, by show p1 ≤ 600000000; omega⟩, ⟨by show i64r hp; unfold i64r; omega, fun v hv => by have := a5 v hv; unfold i64r; omega⟩, by show bs.length ≤ 8; omega, h5⟩, ?_⟩
  · repeat' ((conv => whnf); first | with_reducible exact True.intro | exact vW | with_reducible refine And.intro ?_ ?_)
  · repeat' ((conv => whnf); first | with_reducible exact True.intro | exact vW | with_reducible refine And.intro ?_ ?_)
  intro t p2 b1 b2 b3 b4
  dsimp only at b1 b2 b3 b4
  repeat' ((conv => whnf); first | refine vA ?_ | with_reducible first | refine vS ?_ | refine vR ?_ | refine vB ?_ | refine br_nt ?_ | refine br_tt ?_ | refine br_ff ?_ | refine vP ?_ | refine vQ ?_ | refine vT ?_ | refine vF ?_ | refine br_and ?_ | refine br_or ?_ | refine br_d (fun _ => ?_) fun _ => ?_ | refine vM (fun _ => ?_) fun _ => ?_)
  refine ⟨_, _, [some 0], [], rfl, rfl, ?_, ?_, h ⟨hp, bs⟩ t p2 (by omega) (by omega) ⟨a3, a4, a5, b3, b4⟩⟩
  · repeat' ((conv => whnf); first | with_reducible exact True.intro | exact vW | with_reducible refine And.intro ?_ ?_)
  · repeat' ((conv => whnf); first | with_reducible exact True.intro | exact vW | with_reducible refine And.intro ?_ ?_)
def C41 : GC := conG (X := Rd) (fun _ => [.ptr 0 0]) (fun x => [.box [slB x.b, .int .i64 x.p]]) (fun x => x.okn 400000000) fun x K => ∀ (h : House) (t : List Mark) (w : Int) (p' : Int), x.p ≤ p' → p' ≤ x.p + 70 → Drawn h t → -1 ≤ w → w ≤ 8 → K (.tup [enH h, slM t, .int .i64 w]) [.box [slB x.b, .int .i64 p']]
theorem F41 : GG 41 C41 := by
  refine fitG [] (by simp) [(51, C51), (52, C52)] (by simp only [List.mem_cons, List.not_mem_nil, or_false]; rintro _ (rfl | rfl) <;> first | exact F51 | exact F52) Try.f41 ⟨rfl, by decide +kernel, by decide +kernel⟩ (by intro x K K2 hk h; (try dsimp only at h ⊢); intros; apply hk; first | exact h | (apply h <;> assumption)) ?_
  rintro ⟨b, p⟩ K ⟨h1, h2, h3, h4⟩ h
  refine ⟨Nat.le_of_ble_eq_true rfl, ?_⟩
  dsimp only at h h1 h2 h3 h4 ⊢
  repeat' ((conv => whnf); first | refine vA ?_ | with_reducible first | refine vS ?_ | refine vR ?_ | refine vB ?_ | refine br_nt ?_ | refine br_tt ?_ | refine br_ff ?_ | refine vP ?_ | refine vQ ?_ | refine vT ?_ | refine vF ?_ | refine br_and ?_ | refine br_or ?_ | refine br_d (fun _ => ?_) fun _ => ?_ | refine vM (fun _ => ?_) fun _ => ?_)
  refine ⟨_, _, [0], [], rfl, ?_, ?_, (⟨b, p⟩, 12), rfl, rfl, ⟨⟨h1, h2, h3, by show p ≤ 500000000; omega⟩, by unfold i64r; dsimp only; omega⟩, ?_⟩
  · repeat' ((conv => whnf); first | with_reducible exact True.intro | exact vW | with_reducible refine And.intro ?_ ?_)
  · repeat' ((conv => whnf); first | with_reducible exact True.intro | exact vW | with_reducible refine And.intro ?_ ?_)
  rintro ⟨hp, bs⟩ t p1 a1 a2 a3
  dsimp only at a1 a2
  have a4 := a3.p
  dsimp only at a4
  repeat' ((conv => whnf); first | refine vA ?_ | with_reducible first | refine vS ?_ | refine vR ?_ | refine vB ?_ | refine br_nt ?_ | refine br_tt ?_ | refine br_ff ?_ | refine vP ?_ | refine vQ ?_ | refine vT ?_ | refine vF ?_ | refine br_and ?_ | refine br_or ?_ | refine br_d (fun _ => ?_) fun _ => ?_ | refine vM (fun _ => ?_) fun _ => ?_)
  refine Dr.mk ⟨[0, 1, 2, 3, 4, 5, 7, 11, 6, 8, 9, 10, 12, 13, 14, 15, 16, 17], by decide +kernel, ?_⟩
  repeat' ((conv => whnf); first | refine vA ?_ | with_reducible first | refine vS ?_ | refine vR ?_ | refine vB ?_ | refine br_nt ?_ | refine br_tt ?_ | refine br_ff ?_ | refine vP ?_ | refine vQ ?_ | refine vT ?_ | refine vF ?_ | refine br_and ?_ | refine br_or ?_ | refine br_d (fun _ => ?_) fun _ => ?_ | refine vM (fun _ => ?_) fun _ => ?_)
  refine ⟨_, _, [0], [], rfl, ?_, ?_, (⟨b, p1⟩, if (1 : Int) > hp then (1 : Int) else hp), rfl, rfl, ⟨⟨h1, h2, ?_, ?_⟩, ?_⟩, ?_⟩
  · repeat' ((conv => whnf); first | with_reducible exact True.intro | exact vW | with_reducible refine And.intro ?_ ?_)
    try exact Chk.mk (by rw [pw_sh (by assumption)])
  · repeat' ((conv => whnf); first | with_reducible exact True.intro | exact vW | with_reducible refine And.intro ?_ ?_)
  · dsimp only; omega
  · dsimp only; omega
  · unfold i64r; dsimp only; omega
  intro k1 p2 b0 b1 b2
  dsimp only at b0 b1 b2
  have e1 : 0 ≤ k1 ∧ k1 < 7 := by
    have := b1 (by split <;> omega)
    refine ⟨this.1, ?_⟩
    have h2 := this.2
    split at h2 <;> omega
  repeat' ((conv => whnf); first | refine vA ?_ | with_reducible first | refine vS ?_ | refine vR ?_ | refine vB ?_ | refine br_nt ?_ | refine br_tt ?_ | refine br_ff ?_ | refine vP ?_ | refine vQ ?_ | refine vT ?_ | refine vF ?_ | refine br_and ?_ | refine br_or ?_ | refine br_d (fun _ => ?_) fun _ => ?_ | refine vM (fun _ => ?_) fun _ => ?_)
  refine ⟨_, _, [0], [], rfl, ?_, ?_, (⟨b, p2⟩, 40), rfl, rfl, ⟨⟨h1, h2, ?_, ?_⟩, ?_⟩, ?_⟩
  · repeat' ((conv => whnf); first | with_reducible exact True.intro | exact vW | with_reducible refine And.intro ?_ ?_)
    try exact Chk.mk (by rw [pw_sh (by assumption)])
  · repeat' ((conv => whnf); first | with_reducible exact True.intro | exact vW | with_reducible refine And.intro ?_ ?_)
  · dsimp only; omega
  · dsimp only; omega
  · unfold i64r; dsimp only; omega
  intro k2 p3 c0 c1 c2
  dsimp only at c0 c1 c2
  have e2 : k2.tdiv 39 = k2 / 39 := Int.tdiv_eq_ediv_of_nonneg (by omega)
  repeat' ((conv => whnf); first | refine vA ?_ | with_reducible first | refine vS ?_ | refine vR ?_ | refine vB ?_ | refine br_nt ?_ | refine br_tt ?_ | refine br_ff ?_ | refine vP ?_ | refine vQ ?_ | refine vT ?_ | refine vF ?_ | refine br_and ?_ | refine br_or ?_ | refine br_d (fun _ => ?_) fun _ => ?_ | refine vM (fun _ => ?_) fun _ => ?_)
  refine ⟨_, _, [0], [], rfl, ?_, ?_, (⟨b, p3⟩, 40), rfl, rfl, ⟨⟨h1, h2, ?_, ?_⟩, ?_⟩, ?_⟩
  · repeat' ((conv => whnf); first | with_reducible exact True.intro | exact vW | with_reducible refine And.intro ?_ ?_)
    try exact Chk.mk (by rw [pw_sh (by assumption)])
  · repeat' ((conv => whnf); first | with_reducible exact True.intro | exact vW | with_reducible refine And.intro ?_ ?_)
  · dsimp only; omega
  · dsimp only; omega
  · unfold i64r; dsimp only; omega
  intro k3 p4 d0 d1 d2
  dsimp only at d0 d1 d2
  have e3 : k3.tdiv 39 = k3 / 39 := Int.tdiv_eq_ediv_of_nonneg (by omega)
  repeat' ((conv => whnf); first | refine vA ?_ | with_reducible first | refine vS ?_ | refine vR ?_ | refine vB ?_ | refine br_nt ?_ | refine br_tt ?_ | refine br_ff ?_ | refine vP ?_ | refine vQ ?_ | refine vT ?_ | refine vF ?_ | refine br_and ?_ | refine br_or ?_ | refine br_d (fun _ => ?_) fun _ => ?_ | refine vM (fun _ => ?_) fun _ => ?_)
  refine ⟨_, _, [some 0], [], rfl, rfl, ?_, ?_, h ⟨hp, bs⟩ t (k1 + k2.tdiv 39 - k3.tdiv 39) p4 (by omega) (by omega) a3 (by omega) (by omega)⟩
  · repeat' ((conv => whnf); first | with_reducible exact True.intro | exact vW | with_reducible refine And.intro ?_ ?_)
  · repeat' ((conv => whnf); first | with_reducible exact True.intro | exact vW | with_reducible refine And.intro ?_ ?_)
def C19 : List AV → (AV → Prop) → Prop := con (X := List Int) (fun l => [slB l]) (fun l => (∀ n ∈ l, u8r n) ∧ l.length < 9223372036854775808) fun _ K => ∀ (h : House) (t : List Mark) (w : Int), Drawn h t → -1 ≤ w → w ≤ 8 → K (.tup [enH h, slM t, .int .i64 w])
theorem F19 : FF 19 C19 := by
  refine fitX [] (by simp) [(42, C42), (41, C41)] (by simp only [List.mem_cons, List.not_mem_nil, or_false]; rintro _ (rfl | rfl) <;> first | exact F42 | exact F41) Try.f19 ⟨rfl, by decide +kernel, by decide +kernel⟩ (by intro x K K2 hk h; (try dsimp only at h ⊢); intros; apply hk; first | exact h | (apply h <;> assumption)) ?_
  rintro l K ⟨h1, h2⟩ h
  refine ⟨Nat.le_of_ble_eq_true rfl, ?_⟩
  repeat' ((conv => whnf); first | refine vA ?_ | with_reducible first | refine vS ?_ | refine vR ?_ | refine vB ?_ | refine br_nt ?_ | refine br_tt ?_ | refine br_ff ?_ | refine vP ?_ | refine vQ ?_ | refine vT ?_ | refine vF ?_ | refine br_and ?_ | refine br_or ?_ | refine br_d (fun _ => ?_) fun _ => ?_ | refine vM (fun _ => ?_) fun _ => ?_)
  refine ⟨_, _, [], [], rfl, ?_, ?_, l, rfl, rfl, ⟨h1, h2⟩, ?_⟩
  · repeat' ((conv => whnf); first | with_reducible exact True.intro | exact vW | with_reducible refine And.intro ?_ ?_)
  · repeat' ((conv => whnf); first | with_reducible exact True.intro | exact vW | with_reducible refine And.intro ?_ ?_)
  rintro b ⟨b1, b2, _, _⟩
  repeat' ((conv => whnf); first | refine vA ?_ | with_reducible first | refine vS ?_ | refine vR ?_ | refine vB ?_ | refine br_nt ?_ | refine br_tt ?_ | refine br_ff ?_ | refine vP ?_ | refine vQ ?_ | refine vT ?_ | refine vF ?_ | refine br_and ?_ | refine br_or ?_ | refine br_d (fun _ => ?_) fun _ => ?_ | refine vM (fun _ => ?_) fun _ => ?_)
  refine ⟨_, _, [1], [], rfl, ?_, ?_, ⟨b, 0⟩, rfl, rfl, ⟨b1, b2, (by decide : (0 : Int) ≤ 0), (by decide : (0 : Int) ≤ 400000000)⟩, ?_⟩
  · repeat' ((conv => whnf); first | with_reducible exact True.intro | exact vW | with_reducible refine And.intro ?_ ?_)
  · repeat' ((conv => whnf); first | with_reducible exact True.intro | exact vW | with_reducible refine And.intro ?_ ?_)
  intro x t w p' _ _ hd hw1 hw2
  repeat' ((conv => whnf); first | refine vA ?_ | with_reducible first | refine vS ?_ | refine vR ?_ | refine vB ?_ | refine br_nt ?_ | refine br_tt ?_ | refine br_ff ?_ | refine vP ?_ | refine vQ ?_ | refine vT ?_ | refine vF ?_ | refine br_and ?_ | refine br_or ?_ | refine br_d (fun _ => ?_) fun _ => ?_ | refine vM (fun _ => ?_) fun _ => ?_)
  exact h x t w hd hw1 hw2
def C29 := C19
theorem F29 : FF 29 C29 := by
  refine fitX [] (by simp) [(42, C42), (41, C41)] (by simp only [List.mem_cons, List.not_mem_nil, or_false]; rintro _ (rfl | rfl) <;> first | exact F42 | exact F41) Try.f29 ⟨rfl, by decide +kernel, by decide +kernel⟩ (by intro x K K2 hk h; (try dsimp only at h ⊢); intros; apply hk; first | exact h | (apply h <;> assumption)) ?_
  rintro l K ⟨h1, h2⟩ h
  refine ⟨Nat.le_of_ble_eq_true rfl, ?_⟩
  repeat' ((conv => whnf); first | refine vA ?_ | with_reducible first | refine vS ?_ | refine vR ?_ | refine vB ?_ | refine br_nt ?_ | refine br_tt ?_ | refine br_ff ?_ | refine vP ?_ | refine vQ ?_ | refine vT ?_ | refine vF ?_ | refine br_and ?_ | refine br_or ?_ | refine br_d (fun _ => ?_) fun _ => ?_ | refine vM (fun _ => ?_) fun _ => ?_)
  refine ⟨_, _, [], [], rfl, ?_, ?_, l, rfl, rfl, ⟨h1, h2⟩, ?_⟩
  · repeat' ((conv => whnf); first | with_reducible exact True.intro | exact vW | with_reducible refine And.intro ?_ ?_)
  · repeat' ((conv => whnf); first | with_reducible exact True.intro | exact vW | with_reducible refine And.intro ?_ ?_)
  rintro b ⟨b1, b2, _, _⟩
  repeat' ((conv => whnf); first | refine vA ?_ | with_reducible first | refine vS ?_ | refine vR ?_ | refine vB ?_ | refine br_nt ?_ | refine br_tt ?_ | refine br_ff ?_ | refine vP ?_ | refine vQ ?_ | refine vT ?_ | refine vF ?_ | refine br_and ?_ | refine br_or ?_ | refine br_d (fun _ => ?_) fun _ => ?_ | refine vM (fun _ => ?_) fun _ => ?_)
  refine ⟨_, _, [1], [], rfl, ?_, ?_, ⟨b, 0⟩, rfl, rfl, ⟨b1, b2, (by decide : (0 : Int) ≤ 0), (by decide : (0 : Int) ≤ 400000000)⟩, ?_⟩
  · repeat' ((conv => whnf); first | with_reducible exact True.intro | exact vW | with_reducible refine And.intro ?_ ?_)
  · repeat' ((conv => whnf); first | with_reducible exact True.intro | exact vW | with_reducible refine And.intro ?_ ?_)
  intro x t w p' _ _ hd hw1 hw2
  repeat' ((conv => whnf); first | refine vA ?_ | with_reducible first | refine vS ?_ | refine vR ?_ | refine vB ?_ | refine br_nt ?_ | refine br_tt ?_ | refine br_ff ?_ | refine vP ?_ | refine vQ ?_ | refine vT ?_ | refine vF ?_ | refine br_and ?_ | refine br_or ?_ | refine br_d (fun _ => ?_) fun _ => ?_ | refine vM (fun _ => ?_) fun _ => ?_)
  exact h x t w hd hw1 hw2
def C30 : List AV → (AV → Prop) → Prop := con (X := List Int) (fun l => [slB l]) (fun l => (∀ n ∈ l, u8r n) ∧ l.length < 9223372036854775808) fun _ K => ∀ (h : House) (t : List Mark) (a c : Int), Drawn h t → -1 ≤ a → a ≤ 8 → 0 ≤ c → c ≤ 8 → K (.tup [enH h, slM t, .int .i64 a, .int .i64 c])
theorem F30 : FF 30 C30 := by
  refine fitX [] (by simp) [(42, C42), (41, C41), (52, C52)] (by simp only [List.mem_cons, List.not_mem_nil, or_false]; rintro _ (rfl | rfl | rfl) <;> first | exact F42 | exact F41 | exact F52) Try.f30 ⟨rfl, by decide +kernel, by decide +kernel⟩ (by intro x K K2 hk h; (try dsimp only at h ⊢); intros; apply hk; first | exact h | (apply h <;> assumption)) ?_
  rintro l K ⟨h1, h2⟩ h
  refine ⟨Nat.le_of_ble_eq_true rfl, ?_⟩
  repeat' ((conv => whnf); first | refine vA ?_ | with_reducible first | refine vS ?_ | refine vR ?_ | refine vB ?_ | refine br_nt ?_ | refine br_tt ?_ | refine br_ff ?_ | refine vP ?_ | refine vQ ?_ | refine vT ?_ | refine vF ?_ | refine br_and ?_ | refine br_or ?_ | refine br_d (fun _ => ?_) fun _ => ?_ | refine vM (fun _ => ?_) fun _ => ?_)
  refine ⟨_, _, [], [], rfl, ?_, ?_, l, rfl, rfl, ⟨h1, h2⟩, ?_⟩
  · repeat' ((conv => whnf); first | with_reducible exact True.intro | exact vW | with_reducible refine And.intro ?_ ?_)
  · repeat' ((conv => whnf); first | with_reducible exact True.intro | exact vW | with_reducible refine And.intro ?_ ?_)
  clear h1 h2
  rintro b ⟨h1, h2, _, _⟩
  dsimp only at h1 h2
  repeat' ((conv => whnf); first | refine vA ?_ | with_reducible first | refine vS ?_ | refine vR ?_ | refine vB ?_ | refine br_nt ?_ | refine br_tt ?_ | refine br_ff ?_ | refine vP ?_ | refine vQ ?_ | refine vT ?_ | refine vF ?_ | refine br_and ?_ | refine br_or ?_ | refine br_d (fun _ => ?_) fun _ => ?_ | refine vM (fun _ => ?_) fun _ => ?_)
  refine ⟨_, _, [1], [], rfl, ?_, ?_, ⟨b, 0⟩, rfl, rfl, ⟨h1, h2, (by decide : (0 : Int) ≤ 0), (by decide : (0 : Int) ≤ 400000000)⟩, ?_⟩
  · repeat' ((conv => whnf); first | with_reducible exact True.intro | exact vW | with_reducible refine And.intro ?_ ?_)
  · repeat' ((conv => whnf); first | with_reducible exact True.intro | exact vW | with_reducible refine And.intro ?_ ?_)
  rintro ⟨hp, bs⟩ t w p1 a1 a2 hd hw1 hw2
  dsimp only at a1 a2
  have a4 := hd.p
  dsimp only at a4
  repeat' ((conv => whnf); first | refine vA ?_ | with_reducible first | refine vS ?_ | refine vR ?_ | refine vB ?_ | refine br_nt ?_ | refine br_tt ?_ | refine br_ff ?_ | refine vP ?_ | refine vQ ?_ | refine vT ?_ | refine vF ?_ | refine br_and ?_ | refine br_or ?_ | refine br_d (fun _ => ?_) fun _ => ?_ | refine vM (fun _ => ?_) fun _ => ?_)
  refine Dr.mk ⟨[0, 1, 2, 3, 4, 5, 6, 7, 8, 9, 10, 11], by decide +kernel, ?_⟩
  repeat' ((conv => whnf); first | refine vA ?_ | with_reducible first | refine vS ?_ | refine vR ?_ | refine vB ?_ | refine br_nt ?_ | refine br_tt ?_ | refine br_ff ?_ | refine vP ?_ | refine vQ ?_ | refine vT ?_ | refine vF ?_ | refine br_and ?_ | refine br_or ?_ | refine br_d (fun _ => ?_) fun _ => ?_ | refine vM (fun _ => ?_) fun _ => ?_)
  refine ⟨_, _, [1], [], rfl, ?_, ?_, (⟨b, p1⟩, if (1 : Int) > hp then (1 : Int) else hp), rfl, rfl, ⟨⟨h1, h2, ?_, ?_⟩, ?_⟩, ?_⟩
  · repeat' ((conv => whnf); first | with_reducible exact True.intro | exact vW | with_reducible refine And.intro ?_ ?_)
    try exact Chk.mk (by rw [pw_sh (by assumption)])
  · repeat' ((conv => whnf); first | with_reducible exact True.intro | exact vW | with_reducible refine And.intro ?_ ?_)
  · dsimp only; omega
  · dsimp only; omega
  · unfold i64r; dsimp only; omega
  intro k1 p2 c0 c1 c2
  dsimp only at c0 c1 c2
  have e1 : 0 ≤ k1 ∧ k1 < 8 := by
    have := c1 (by split <;> omega)
    refine ⟨this.1, ?_⟩
    have h2 := this.2
    split at h2 <;> omega
  repeat' ((conv => whnf); first | refine vA ?_ | with_reducible first | refine vS ?_ | refine vR ?_ | refine vB ?_ | refine br_nt ?_ | refine br_tt ?_ | refine br_ff ?_ | refine vP ?_ | refine vQ ?_ | refine vT ?_ | refine vF ?_ | refine br_and ?_ | refine br_or ?_ | refine br_d (fun _ => ?_) fun _ => ?_ | refine vM (fun _ => ?_) fun _ => ?_)
  exact h ⟨hp, bs⟩ t w k1 hd hw1 hw2 (by omega) (by omega)
theorem ins_ext {l : List Int} {a : Nat} {c : Int} (ha : a ≤ l.length) : (l.take a ++ [c] ++ l.drop a).length = a + 1 + (l.length - a) ∧ ∀ j, j < (l.take a ++ [c] ++ l.drop a).length → encI ((l.take a ++ [c] ++ l.drop a).getD j 0) =
    appF (a + 1) (appF a (fun i => (fun j => encI (l.getD j 0)) (0 + 0 + i)) fun i => (fun i => [[AV.int .i64 c]].getD i [AV.int .i64 0]) (0 + i)) (fun i => (fun j => encI (l.getD j 0)) (0 + a + i)) j := by
  have hl : (l.take a).length = a := by rw [List.length_take]; omega
  refine ⟨by simp; omega, fun j hj => ?_⟩
  unfold appF
  cases hb : Nat.blt j (a + 1) with
  | true =>
    have h1 : j < a + 1 := Nat.le_of_ble_eq_true hb
    cases hb2 : Nat.blt j a with
    | true =>
      have h2 : j < a := Nat.le_of_ble_eq_true hb2
      rw [List.append_assoc, getD_take_app ha h2]
      show _ = encI (l.getD (0 + 0 + j) 0)
      rw [show 0 + 0 + j = j by omega]
    | false =>
      have h2 : j = a := by
        rcases Nat.lt_or_ge j a with h | h
        · have : Nat.blt j a = true := Nat.ble_eq_true_of_le h
          rw [this] at hb2; cases hb2
        · omega
      subst h2
      rw [List.append_assoc, List.getD_eq_getElem?_getD, List.getElem?_append_right (by omega), hl]
      simp [encI]
  | false =>
    have h1 : a + 1 ≤ j := by
      rcases Nat.lt_or_ge j (a + 1) with h | h
      · have : Nat.blt j (a + 1) = true := Nat.ble_eq_true_of_le h
        rw [this] at hb; cases hb
      · exact h
    show _ = encI (l.getD (0 + a + (j - (a + 1))) 0)
    rw [List.getD_eq_getElem?_getD, List.getElem?_append_right (by simp [hl]; omega), List.getElem?_drop, ← List.getD_eq_getElem?_getD]
    congr 2
    simp [hl]
theorem app0_fun {o : List Int} {c : Int} : (fun i => appF o.length (fun j => encI (o.getD j 0)) (fun i => (fun i => [[AV.int .i64 c]].getD i [AV.int .i64 0]) (0 + i)) (0 + i)) = fun i => encI ((o ++ [c]).getD i 0) := by
  have e : (fun i => (fun i => [[AV.int .i64 c]].getD i [AV.int .i64 0]) (0 + i)) = fun i => encI ([c].getD i 0) := by
    funext i
    simp only [Nat.zero_add]
    match i with
    | 0 => rfl
    | i + 1 => rfl
  rw [e, appF_enc]
  funext i
  rw [Nat.zero_add]
def C27 : List AV → (AV → Prop) → Prop := con (X := List Int) (fun l => [slB l]) (fun l => (∀ n ∈ l, u8r n) ∧ l.length < 9223372036854775808) fun _ K => ∀ (h : House) (t : List Mark) (o : List Int), Drawn h t → o.length ≤ 8 → (∀ w ∈ o, 0 ≤ w ∧ w < 8) → K (.tup [enH h, slM t, slI o])
theorem F27 : FF 27 C27 := by
  refine fitX [] (by simp) [(42, C42), (51, C51), (52, C52), (53, C53)] (by simp only [List.mem_cons, List.not_mem_nil, or_false]; rintro _ (rfl | rfl | rfl | rfl) <;> first | exact F42 | exact F51 | exact F52 | exact F53) Try.f27 ⟨rfl, by decide +kernel, by decide +kernel⟩ (by intro x K K2 hk h; (try dsimp only at h ⊢); intros; apply hk; first | exact h | (apply h <;> assumption)) ?_
  rintro l K ⟨h1, h2⟩ h
  refine ⟨Nat.le_of_ble_eq_true rfl, ?_⟩
  repeat' ((conv => whnf); first | refine vA ?_ | with_reducible first | refine vS ?_ | refine vR ?_ | refine vB ?_ | refine br_nt ?_ | refine br_tt ?_ | refine br_ff ?_ | refine vP ?_ | refine vQ ?_ | refine vT ?_ | refine vF ?_ | refine br_and ?_ | refine br_or ?_ | refine br_d (fun _ => ?_) fun _ => ?_ | refine vM (fun _ => ?_) fun _ => ?_)
  refine ⟨_, _, [], [], rfl, ?_, ?_, l, rfl, rfl, ⟨h1, h2⟩, ?_⟩
  · repeat' ((conv => whnf); first | with_reducible exact True.intro | exact vW | with_reducible refine And.intro ?_ ?_)
  · repeat' ((conv => whnf); first | with_reducible exact True.intro | exact vW | with_reducible refine And.intro ?_ ?_)
  clear h1 h2
  rintro b ⟨h1, h2, _, _⟩
  dsimp only at h1 h2
  repeat' ((conv => whnf); first | refine vA ?_ | with_reducible first | refine vS ?_ | refine vR ?_ | refine vB ?_ | refine br_nt ?_ | refine br_tt ?_ | refine br_ff ?_ | refine vP ?_ | refine vQ ?_ | refine vT ?_ | refine vF ?_ | refine br_and ?_ | refine br_or ?_ | refine br_d (fun _ => ?_) fun _ => ?_ | refine vM (fun _ => ?_) fun _ => ?_)
  refine ⟨_, _, [1], [], rfl, ?_, ?_, (⟨b, 0⟩, 12), rfl, rfl, ⟨⟨h1, h2, (by decide : (0 : Int) ≤ 0), (by decide : (0 : Int) ≤ 500000000)⟩, by unfold i64r; dsimp only; omega⟩, ?_⟩
  · repeat' ((conv => whnf); first | with_reducible exact True.intro | exact vW | with_reducible refine And.intro ?_ ?_)
  · repeat' ((conv => whnf); first | with_reducible exact True.intro | exact vW | with_reducible refine And.intro ?_ ?_)
  rintro ⟨hp, bs⟩ t p1 a1 a2 hd
  dsimp only at a1 a2
  have a4 := hd.p
  dsimp only at a4
  repeat' ((conv => whnf); first | refine vA ?_ | with_reducible first | refine vS ?_ | refine vR ?_ | refine vB ?_ | refine br_nt ?_ | refine br_tt ?_ | refine br_ff ?_ | refine vP ?_ | refine vQ ?_ | refine vT ?_ | refine vF ?_ | refine br_and ?_ | refine br_or ?_ | refine br_d (fun _ => ?_) fun _ => ?_ | refine vM (fun _ => ?_) fun _ => ?_)
  refine Lp.mk ⟨List Int × Nat × Int, fun x => [(2, .ptr 0 0), (5, .ptr 1 0), (6, .ptr 2 0), (7, slM t), (8, .row 3 1 0 x.1.length), (9, .int .i64 x.2.1)],
    fun x => [.box [.int .i64 0, .nils], rdO b x.2.2, .box [.int .i64 hp, slI bs], .row 1 x.1.length fun j => encI (x.1.getD j 0)],
    fun x => x.2.1 ≤ 7 ∧ x.1.length = x.2.1 ∧ 0 ≤ x.2.2 ∧ x.2.2 ≤ 100 + x.2.1 ∧ ∀ w ∈ x.1, 0 ≤ w ∧ w < 8, fun x => 7 - x.2.1, ⟨([], 0, p1), ⟨by simp, rfl, by show 0 ≤ p1; omega, by show p1 ≤ 100 + 0; omega, by simp⟩, ⟨⟨[some 0, some 1, some 2, none], [], rfl, rfl, ?_, ?_⟩⟩⟩, ?_⟩
  · repeat' ((conv => whnf); first | with_reducible exact True.intro | exact vW | with_reducible refine And.intro ?_ ?_)
  · repeat' ((conv => whnf); first | with_reducible exact True.intro | exact vW | with_reducible refine And.intro ?_ ?_)
  rintro ⟨o, i, q⟩ ⟨i1, i2, i3, i4, i5⟩
  dsimp only at i1 i2 i3 i4 i5 ⊢
  repeat' ((conv => whnf); first | refine vA ?_ | with_reducible first | refine vS ?_ | refine vR ?_ | refine vB ?_ | refine br_nt ?_ | refine br_tt ?_ | refine br_ff ?_ | refine vP ?_ | refine vQ ?_ | refine vT ?_ | refine vF ?_ | refine br_and ?_ | refine br_or ?_ | refine br_d (fun _ => ?_) fun _ => ?_ | refine vM (fun _ => ?_) fun _ => ?_)
  · refine ⟨_, _, [1], [], rfl, ?_, ?_, (⟨b, q⟩, o.length + 1), rfl, rfl, ⟨⟨h1, h2, ?_, ?_⟩, ?_⟩, ?_⟩
    · repeat' ((conv => whnf); first | with_reducible exact True.intro | exact vW | with_reducible refine And.intro ?_ ?_)
      try exact Chk.mk (by rw [pw_sh (by assumption)])
    · repeat' ((conv => whnf); first | with_reducible exact True.intro | exact vW | with_reducible refine And.intro ?_ ?_)
    · dsimp only; omega
    · dsimp only; omega
    · unfold i64r; dsimp only; omega
    intro a p2 c0 c1 c2
    dsimp only at c0 c1 c2
    repeat' ((conv => whnf); first | refine vA ?_ | with_reducible first | refine vS ?_ | refine vR ?_ | refine vB ?_ | refine br_nt ?_ | refine br_tt ?_ | refine br_ff ?_ | refine vP ?_ | refine vQ ?_ | refine vT ?_ | refine vF ?_ | refine br_and ?_ | refine br_or ?_ | refine br_d (fun _ => ?_) fun _ => ?_ | refine vM (fun _ => ?_) fun _ => ?_)
    refine ⟨(o.take a.toNat ++ [(i : Int)] ++ o.drop a.toNat, i + 1, p2), ⟨by show i + 1 ≤ 7; omega, by simp; omega, by show 0 ≤ p2; omega, by show p2 ≤ 100 + ((i + 1 : Nat) : Int); omega, ?_⟩, by show 7 - (i + 1) < 7 - i; omega, ⟨⟨[some 0, some 1, some 2, some 7], [], rfl, rfl, ?_, ?_⟩⟩⟩
    · intro w hw
      simp only [List.mem_append, List.mem_singleton] at hw
      rcases hw with (hw | rfl) | hw
      · exact i5 w (List.mem_of_mem_take hw)
      · omega
      · exact i5 w (List.mem_of_mem_drop hw)
    · repeat' ((conv => whnf); first | with_reducible exact True.intro | exact vW | with_reducible refine And.intro ?_ ?_)
      all_goals exact Chk.mk ⟨rfl, (ins_ext (l := o) (a := a.toNat) (c := i) (by omega)).1⟩
    · repeat' ((conv => whnf); first | with_reducible exact True.intro | exact vW | with_reducible refine And.intro ?_ ?_)
      all_goals exact Chk.mk (ins_ext (l := o) (a := a.toNat) (c := i) (by omega))
  · refine ⟨_, _, [1], [], rfl, ?_, ?_, (⟨b, q⟩, 14), rfl, rfl, ⟨⟨h1, h2, by show 0 ≤ q; omega, by show q ≤ 1000000000; omega⟩, by unfold i64r; dsimp only; omega⟩, ?_⟩
    · repeat' ((conv => whnf); first | with_reducible exact True.intro | exact vW | with_reducible refine And.intro ?_ ?_)
    · repeat' ((conv => whnf); first | with_reducible exact True.intro | exact vW | with_reducible refine And.intro ?_ ?_)
    intro v p2 g1 g2
    dsimp only at g1 g2
    repeat' ((conv => whnf); first | refine vA ?_ | with_reducible first | refine vS ?_ | refine vR ?_ | refine vB ?_ | refine br_nt ?_ | refine br_tt ?_ | refine br_ff ?_ | refine vP ?_ | refine vQ ?_ | refine vT ?_ | refine vF ?_ | refine br_and ?_ | refine br_or ?_ | refine br_d (fun _ => ?_) fun _ => ?_ | refine vM (fun _ => ?_) fun _ => ?_)
    · have e := h ⟨hp, bs⟩ t (o ++ [0]) hd (by simp; omega) (fun w hw => by
        rcases List.mem_append.1 hw with hw | hw
        · exact i5 w hw
        · simp at hw; omega)
      have e3 : slI (o ++ [0]) = AV.sl 1 (o.length + 1) fun i => appF o.length (fun j => encI (o.getD j 0)) (fun i => (fun i => [[AV.int .i64 0]].getD i [AV.int .i64 0]) (0 + i)) (0 + i) := by
        show AV.sl 1 (o ++ [0]).length (fun i => encI ((o ++ [0]).getD i 0)) = _
        rw [app0_fun, List.length_append]
        rfl
      rw [e3] at e
      exact e
    · have e := h ⟨hp, bs⟩ t o hd (by omega) i5
      have e2 : (fun i => (fun j => encI (o.getD j 0)) (0 + i)) = fun j => encI (o.getD j 0) := by funext i; rw [Nat.zero_add]
      show K (AV.tup [enH ⟨hp, bs⟩, slM t, AV.sl 1 o.length fun i => (fun j => encI (o.getD j 0)) (0 + i)])
      rw [e2]
      exact e
end Go.Proofs.Ytbbgojaloebknaa.Vc
