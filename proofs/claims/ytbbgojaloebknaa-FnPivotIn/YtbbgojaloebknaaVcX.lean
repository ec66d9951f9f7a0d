/- Part X: the program's small functions. -/
import Derived.Test.YtbbgojaloebknaaVcW
namespace Go.Proofs.Ytbbgojaloebknaa.Vc
open Go.Proofs
set_option maxRecDepth 10000
theorem fitE (E : Env) {X : Type} {args : X → List AV} {pre : X → Prop} {post : X → (AV → Prop) → Prop} (hE : ∀ p, p ∈ E → FF p.1 p.2) {f : FuncId} (fn : Func) (hf : FnOk Try.prog f fn) (hM : ∀ x (K K' : AV → Prop), (∀ r, K r → K' r) → post x K → post x K')
    (hb : ∀ x (K : AV → Prop), pre x → post x K → (args x).length ≤ fn.ntmps ∧ bodyP (lookT TT) (callE E) (Dr (lookT TT) (callE E)) 0 fn (args x) [] (out K)) : FF f (con args pre post) := fits tOk (callE_ok hE) mixed hf hM hb
section
variable {P Q : Prop} [Decidable P] [Decidable Q] {K : AV → Prop}
theorem yes {b : Bool} (h : K (.bool (decide P))) (e : P ↔ b = true) : K (.bool b) := by
  have : decide P = b := by cases b <;> simp_all
  rw [← this]; exact h
theorem yesD (h : K (.bool (decide P))) (e : P ↔ Q) : K (.bool (decide Q)) := yes h (e.trans decide_eq_true_iff.symm)
theorem yesT (h : K (.bool (decide P))) (e : P) : K (.bool true) := yes h ⟨fun _ => rfl, fun _ => e⟩
theorem yesF (h : K (.bool (decide P))) (e : ¬ P) : K (.bool false) := yes h ⟨fun q => absurd q e, fun q => by cases q⟩
theorem yesN (h : K (.bool (decide P))) (e : P ↔ ¬ Q) : K (.bool (!decide Q)) := yes h (e.trans (by simp))
end
def i64r (x : Int) : Prop := -9223372036854775808 ≤ x ∧ x ≤ 9223372036854775807

/-! ### people and crowds -/
abbrev people (p : Int) : Prop := 1 ≤ p ∧ p ≤ 6
def pw (p : Int) : Int := 2 ^ p.toNat
abbrev crowd (p c : Int) : Prop := people p ∧ 0 ≤ c ∧ c < pw p
theorem people_cases {p : Int} (h : people p) : p = 1 ∨ p = 2 ∨ p = 3 ∨ p = 4 ∨ p = 5 ∨ p = 6 := by have := h.1; have := h.2; omega
theorem pw_sh {p : Int} (h : people p) : 1 * 2 ^ min p.toNat IntKind.i64.bits = pw p := by
  rcases people_cases h with rfl | rfl | rfl | rfl | rfl | rfl <;> rfl
theorem pw_le {p : Int} (h : people p) : 2 ≤ pw p ∧ pw p ≤ 64 := by
  rcases people_cases h with rfl | rfl | rfl | rfl | rfl | rfl <;> decide
theorem wsh {p : Int} (h : people p) : IntKind.i64.wrap (1 * 2 ^ min p.toNat IntKind.i64.bits) = 1 * 2 ^ min p.toNat IntKind.i64.bits := by
  have := pw_le h
  exact wi64 (by rw [pw_sh h]; omega) (by rw [pw_sh h]; omega)

def C61 : List AV → (AV → Prop) → Prop := con (X := Int) (fun p => [.int .i64 p]) i64r fun p K => K (.bool (decide (people p)))
theorem F61 : FF 61 C61 := by
  refine fitE [] (by simp) Try.f61 ⟨rfl, by decide +kernel, by decide +kernel⟩ (fun _ _ _ hk h => hk _ h) ?_
  intro p K h1 h
  refine ⟨Nat.le_of_ble_eq_true rfl, ?_⟩
  repeat' ((conv => whnf); first | refine vA ?_ | with_reducible first | refine vS ?_ | refine vR ?_ | refine vB ?_ | refine br_nt ?_ | refine br_tt ?_ | refine br_ff ?_ | refine vP ?_ | refine vQ ?_ | refine vT ?_ | refine vF ?_ | refine br_and ?_ | refine br_or ?_ | refine br_d (fun _ => ?_) fun _ => ?_ | refine vM (fun _ => ?_) fun _ => ?_)
  all_goals
    first | exact yesD h (by omega) | exact yesT h (by omega) | exact yesF h (by omega) | exact yesN h (by omega)
def C54 : List AV → (AV → Prop) → Prop := con (X := Int × Int) (fun x => [.int .i64 x.1, .int .i64 x.2]) (fun x => i64r x.1 ∧ i64r x.2) fun x K => K (.bool (decide (crowd x.1 x.2)))
theorem F54 : FF 54 C54 := by
  refine fitE [(61, C61)] (by simp only [List.mem_cons, List.not_mem_nil, or_false]; rintro _ rfl <;> first | exact F61) Try.f54 ⟨rfl, by decide +kernel, by decide +kernel⟩ (fun _ _ _ hk h => hk _ h) ?_
  rintro ⟨p, c⟩ K ⟨h1, h2⟩ h
  refine ⟨Nat.le_of_ble_eq_true rfl, ?_⟩
  dsimp only at h h1 h2 ⊢
  repeat' ((conv => whnf); first | refine vA ?_ | with_reducible first | refine vS ?_ | refine vR ?_ | refine vB ?_ | refine br_nt ?_ | refine br_tt ?_ | refine br_ff ?_ | refine vP ?_ | refine vQ ?_ | refine vT ?_ | refine vF ?_ | refine br_and ?_ | refine br_or ?_ | refine br_d (fun _ => ?_) fun _ => ?_ | refine vM (fun _ => ?_) fun _ => ?_)
  refine ⟨p, ?_, ⟨h1⟩, ?_⟩
  · repeat' ((conv => whnf); first | with_reducible exact True.intro | exact vW | with_reducible refine And.intro ?_ ?_)
  repeat' ((conv => whnf); first | with_reducible refine Wr.ex (wsh (by assumption)) ?_ | refine vA ?_ | with_reducible first | refine vS ?_ | refine vR ?_ | refine vB ?_ | refine br_nt ?_ | refine br_tt ?_ | refine br_ff ?_ | refine vP ?_ | refine vQ ?_ | refine vT ?_ | refine vF ?_ | refine br_and ?_ | refine br_or ?_ | refine br_d (fun _ => ?_) fun _ => ?_ | refine vM (fun _ => ?_) fun _ => ?_)
  · rw [pw_sh (by assumption)]
    first | exact yesD h (by omega) | exact yesT h (by omega) | exact yesF h (by omega) | exact yesN h (by omega)
  · first | exact yesD h (by omega) | exact yesT h (by omega) | exact yesF h (by omega) | exact yesN h (by omega)
  · first | exact yesD h (by omega) | exact yesT h (by omega) | exact yesF h (by omega) | exact yesN h (by omega)
def C45 := C54
theorem F45 : FF 45 C45 := by
  refine fitE [(54, C54)] (by simp only [List.mem_cons, List.not_mem_nil, or_false]; rintro _ rfl <;> first | exact F54) Try.f45 ⟨rfl, by decide +kernel, by decide +kernel⟩ (fun _ _ _ hk h => hk _ h) ?_
  rintro ⟨p, c⟩ K ⟨h1, h2⟩ h
  refine ⟨Nat.le_of_ble_eq_true rfl, ?_⟩
  dsimp only at h h1 h2 ⊢
  repeat' ((conv => whnf); first | refine vA ?_ | with_reducible first | refine vS ?_ | refine vR ?_ | refine vB ?_ | refine br_nt ?_ | refine br_tt ?_ | refine br_ff ?_ | refine vP ?_ | refine vQ ?_ | refine vT ?_ | refine vF ?_ | refine br_and ?_ | refine br_or ?_ | refine br_d (fun _ => ?_) fun _ => ?_ | refine vM (fun _ => ?_) fun _ => ?_)
  refine ⟨(p, c), ?_, ⟨h1, h2⟩, ?_⟩
  · repeat' ((conv => whnf); first | with_reducible exact True.intro | exact vW | with_reducible refine And.intro ?_ ?_)
  repeat' ((conv => whnf); first | refine vA ?_ | with_reducible first | refine vS ?_ | refine vR ?_ | refine vB ?_ | refine br_nt ?_ | refine br_tt ?_ | refine br_ff ?_ | refine vP ?_ | refine vQ ?_ | refine vT ?_ | refine vF ?_ | refine br_and ?_ | refine br_or ?_ | refine br_d (fun _ => ?_) fun _ => ?_ | refine vM (fun _ => ?_) fun _ => ?_)
  exact h
def C35 : List AV → (AV → Prop) → Prop := con (X := Int × Int × Int) (fun x => [.int .i64 x.1, .int .i64 x.2.1, .int .i64 x.2.2]) (fun _ => True) fun x K => K (.bool (decide (x.2.1 ≤ x.1 ∧ x.1 ≤ x.2.2)))
theorem F35 : FF 35 C35 := by
  refine fitE [] (by simp) Try.f35 ⟨rfl, by decide +kernel, by decide +kernel⟩ (fun _ _ _ hk h => hk _ h) ?_
  rintro ⟨n, l, u⟩ K _ h
  refine ⟨Nat.le_of_ble_eq_true rfl, ?_⟩
  dsimp only at h ⊢
  repeat' ((conv => whnf); first | refine vA ?_ | with_reducible first | refine vS ?_ | refine vR ?_ | refine vB ?_ | refine br_nt ?_ | refine br_tt ?_ | refine br_ff ?_ | refine vP ?_ | refine vQ ?_ | refine vT ?_ | refine vF ?_ | refine br_and ?_ | refine br_or ?_ | refine br_d (fun _ => ?_) fun _ => ?_ | refine vM (fun _ => ?_) fun _ => ?_)
  all_goals
    first | exact yesD h (by omega) | exact yesT h (by omega) | exact yesF h (by omega) | exact yesN h (by omega)
def C62 := C54
theorem F62 : FF 62 C62 := by
  refine fitE [(35, C35)] (by simp only [List.mem_cons, List.not_mem_nil, or_false]; rintro _ rfl <;> first | exact F35) Try.f62 ⟨rfl, by decide +kernel, by decide +kernel⟩ (fun _ _ _ hk h => hk _ h) ?_
  rintro ⟨p, c⟩ K ⟨h1, h2⟩ h
  refine ⟨Nat.le_of_ble_eq_true rfl, ?_⟩
  dsimp only at h h1 h2 ⊢
  repeat' ((conv => whnf); first | refine vA ?_ | with_reducible first | refine vS ?_ | refine vR ?_ | refine vB ?_ | refine br_nt ?_ | refine br_tt ?_ | refine br_ff ?_ | refine vP ?_ | refine vQ ?_ | refine vT ?_ | refine vF ?_ | refine br_and ?_ | refine br_or ?_ | refine br_d (fun _ => ?_) fun _ => ?_ | refine vM (fun _ => ?_) fun _ => ?_)
  refine ⟨(p, 1, 6), ?_, ⟨trivial⟩, ?_⟩
  · repeat' ((conv => whnf); first | with_reducible exact True.intro | exact vW | with_reducible refine And.intro ?_ ?_)
  dsimp only
  repeat' ((conv => whnf); first | with_reducible refine Wr.ex (wsh (by assumption)) ?_ | with_reducible refine Wr.ex (wi64 (by rw [pw_sh (by assumption)]; have := pw_le (by assumption); omega) (by rw [pw_sh (by assumption)]; have := pw_le (by assumption); omega)) ?_ | refine vA ?_ | with_reducible first | refine vS ?_ | refine vR ?_ | refine vB ?_ | refine br_nt ?_ | refine br_tt ?_ | refine br_ff ?_ | refine vP ?_ | refine vQ ?_ | refine vT ?_ | refine vF ?_ | refine br_and ?_ | refine br_or ?_ | refine br_d (fun _ => ?_) fun _ => ?_ | refine vM (fun _ => ?_) fun _ => ?_)
  · refine ⟨(c, 0, pw p - 1), ?_, ⟨trivial⟩, ?_⟩
    · repeat' ((conv => whnf); first | with_reducible exact True.intro | exact vW | with_reducible refine And.intro ?_ ?_)
      exact ⟨by rw [pw_sh (by assumption)]⟩
    dsimp only
    repeat' ((conv => whnf); first | refine vA ?_ | with_reducible first | refine vS ?_ | refine vR ?_ | refine vB ?_ | refine br_nt ?_ | refine br_tt ?_ | refine br_ff ?_ | refine vP ?_ | refine vQ ?_ | refine vT ?_ | refine vF ?_ | refine br_and ?_ | refine br_or ?_ | refine br_d (fun _ => ?_) fun _ => ?_ | refine vM (fun _ => ?_) fun _ => ?_)
    first | exact yesD h (by omega) | exact yesT h (by omega) | exact yesF h (by omega) | exact yesN h (by omega)
  · first | exact yesD h (by omega) | exact yesT h (by omega) | exact yesF h (by omega) | exact yesN h (by omega)
/-! ### Heads -/
def headsF : Nat → Nat → Nat
  | 0, _ => 0
  | f + 1, m => m % 2 + headsF f (m / 2)
def heads (m : Nat) : Nat := headsF 64 m
theorem headsF_succ : ∀ (f m : Nat), m < 2 ^ f → headsF (f + 1) m = headsF f m
  | 0, m, h => by
    have : m = 0 := by simpa using h
    subst this; rfl
  | f + 1, m, h => by
    rw [headsF, headsF_succ f (m / 2) (by rw [Nat.pow_succ] at h; omega)]
    rfl
theorem heads_step {m : Nat} (h : m < 2 ^ 64) : heads m = m % 2 + heads (m / 2) := by
  unfold heads
  rw [headsF, ← headsF_succ 63 (m / 2) (by omega)]
theorem headsF_le : ∀ (f m : Nat), headsF f m ≤ f
  | 0, _ => Nat.le_refl _
  | f + 1, m => by
    have := headsF_le f (m / 2)
    rw [headsF]; omega
theorem heads_le (m : Nat) : heads m ≤ 64 := headsF_le 64 m
theorem tmod2 (m : Nat) : Int.tmod (m : Int) 2 = ((m % 2 : Nat) : Int) := by rw [Int.tmod_eq_emod_of_nonneg (by omega)]; omega
theorem tdiv2 (m : Nat) : Int.tdiv (m : Int) 2 = ((m / 2 : Nat) : Int) := by rw [Int.tdiv_eq_ediv_of_nonneg (by omega)]; omega
def C48 : List AV → (AV → Prop) → Prop := con (X := Int) (fun c => [.int .i64 c]) i64r fun c K => K (.int .i64 (heads c.toNat))
theorem F48 : FF 48 C48 := by
  refine fitE [] (by simp) Try.f48 ⟨rfl, by decide +kernel, by decide +kernel⟩ (fun _ _ _ hk h => hk _ h) ?_
  intro c K h1 h
  refine ⟨Nat.le_of_ble_eq_true rfl, ?_⟩
  repeat' ((conv => whnf); first | refine vA ?_ | with_reducible first | refine vS ?_ | refine vR ?_ | refine vB ?_ | refine br_nt ?_ | refine br_tt ?_ | refine br_ff ?_ | refine vP ?_ | refine vQ ?_ | refine vT ?_ | refine vF ?_ | refine br_and ?_ | refine br_or ?_ | refine br_d (fun _ => ?_) fun _ => ?_ | refine vM (fun _ => ?_) fun _ => ?_)
  refine Lp.mk ⟨Int × Nat, fun x => [(0, .int .i64 x.1), (3, .int .i64 x.2)], fun _ => [], fun x => (x.1 = c ∨ 0 ≤ x.1) ∧ x.1 ≤ 9223372036854775807 ∧ x.2 + heads x.1.toNat = heads c.toNat, fun x => x.1.toNat, ⟨(c, 0), ⟨.inl rfl, h1.2, Nat.zero_add _⟩, ⟨⟨[], [], rfl, rfl, ?_, ?_⟩⟩⟩, ?_⟩
  · repeat' ((conv => whnf); first | with_reducible exact True.intro | exact vW | with_reducible refine And.intro ?_ ?_)
  · repeat' ((conv => whnf); first | with_reducible exact True.intro | exact vW | with_reducible refine And.intro ?_ ?_)
  rintro ⟨d, s⟩ ⟨i1, i2, i3⟩
  dsimp only at i1 i2 i3 ⊢
  have hs := heads_le c.toNat
  repeat' ((conv => whnf); first | with_reducible refine Wr.ex (wi64 (by have := tmod2 d.toNat; rw [Int.toNat_of_nonneg (by omega)] at this; omega) (by have := tmod2 d.toNat; rw [Int.toNat_of_nonneg (by omega)] at this; omega)) ?_ | with_reducible refine Wr.ex (wi64 (by have := tdiv2 d.toNat; rw [Int.toNat_of_nonneg (by omega)] at this; omega) (by have := tdiv2 d.toNat; rw [Int.toNat_of_nonneg (by omega)] at this; omega)) ?_ | refine vA ?_ | with_reducible first | refine vS ?_ | refine vR ?_ | refine vB ?_ | refine br_nt ?_ | refine br_tt ?_ | refine br_ff ?_ | refine vP ?_ | refine vQ ?_ | refine vT ?_ | refine vF ?_ | refine br_and ?_ | refine br_or ?_ | refine br_d (fun _ => ?_) fun _ => ?_ | refine vM (fun _ => ?_) fun _ => ?_)
  · have e1 := tmod2 d.toNat
    have e2 := tdiv2 d.toNat
    rw [Int.toNat_of_nonneg (by omega)] at e1 e2
    have e3 := heads_step (m := d.toNat) (by omega)
    refine ⟨((d.toNat / 2 : Nat), s + d.toNat % 2), ⟨.inr (by omega), ?_, ?_⟩, ?_, ⟨⟨[], [], rfl, rfl, ?_, ?_⟩⟩⟩
    · show ((d.toNat / 2 : Nat) : Int) ≤ _
      omega
    · show s + d.toNat % 2 + heads ((d.toNat / 2 : Nat) : Int).toNat = _
      rw [Int.toNat_natCast]
      omega
    · show ((d.toNat / 2 : Nat) : Int).toNat < d.toNat
      omega
    · repeat' ((conv => whnf); first | with_reducible exact True.intro | exact vW | with_reducible refine And.intro ?_ ?_)
    · repeat' ((conv => whnf); first | with_reducible exact True.intro | exact vW | with_reducible refine And.intro ?_ ?_)
  · have : d.toNat = 0 := by omega
    rw [this] at i3
    have e : heads 0 = 0 := by decide
    rw [← i3, e, Nat.add_zero] at h
    exact h
end Go.Proofs.Ytbbgojaloebknaa.Vc
