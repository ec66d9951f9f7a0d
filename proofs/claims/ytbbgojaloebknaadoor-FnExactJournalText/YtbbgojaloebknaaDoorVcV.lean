/- Part V of the engine: contracts by ghosts. -/
import Derived.Test.YtbbgojaloebknaaDoorVcU
namespace Go.Proofs.YtbbgojaloebknaaDoor.Vc
mutual
/-- The same data, told otherwise. -/
def exV : AV → AV → Prop
  | .sl s n f, .sl z m g => cond (Nat.beq s z) (Chk (n = m ∧ ∀ i, i < n → f i = g i)) False
  | .nils, .sl _ m _ => Chk (m = 0)
  | .int k a, .int j b => cond (sameK k j) (Chk (a = b)) False
  | .bool a, .bool b => Chk (a = b)
  | .str a, .str b => Chk (a = b)
  | .ro a, .ro b => Chk (a = b)
  | .nils, .nils => True
  | .nilp, .nilp => True
  | .nilf, .nilf => True
  | .nili, .nili => True
  | .agg l, .agg m => exL l m
  | .tup l, .tup m => exL l m
  | .fn f a c, .fn g b d => cond (Nat.beq f g) (exL a b ∧ exL c d) False
  | _, .undef => True
  | _, _ => False
def exL : List AV → List AV → Prop
  | [], [] => True
  | a :: l, b :: m => exV a b ∧ exL l m
  | _, _ => False
end
section
variable {P : Program} {TB : TypeId → TI} {R : Nat → Prop} {w : World} {Gl : List (Nat × Go.Obj)} {call : FuncId → List AV → List Obj → (AV → List Obj → Prop) → Prop}
theorem DR.ext' {s m k : Nat} {f g : Nat → List AV} {y : Value} (h : DR R w (.sl s m f) y) (hk : m = k) (he : ∀ i, i < m → f i = g i) : DR R w (.sl s k g) y := h.ext hk.symm fun i hi => (he i (hk ▸ hi)).symm
mutual
theorem exV_PV : ∀ (u v : AV), exV u v → ∀ x, PV R w u x → PV R w v x
  | u, .undef, _, x, _ => .undef x
  | u, .sl z m g, h, x, hp => by
    cases u <;> simp only [exV] at h
    case sl s n f =>
      obtain ⟨h1, ⟨h2⟩⟩ := of_cond_true h
      obtain rfl := Nat.eq_of_beq_eq_true h1
      cases hp with | data hd => exact .data (hd.ext' h2.1 h2.2)
    case nils =>
      obtain rfl := h.h
      cases hp with | data hd => cases hd; exact .data (.sl0 _ _ _ _)
  | u, .int j b, h, x, hp => by
    cases u <;> simp only [exV] at h
    obtain ⟨h1, ⟨rfl⟩⟩ := of_cond_true h
    obtain rfl : _ = j := of_decide_eq_true h1
    exact hp
  | u, .bool b, h, x, hp => by
    cases u <;> simp only [exV] at h
    obtain ⟨rfl⟩ := h
    exact hp
  | u, .str b, h, x, hp => by
    cases u <;> simp only [exV] at h
    obtain ⟨rfl⟩ := h
    exact hp
  | u, .ro b, h, x, hp => by
    cases u <;> simp only [exV] at h
    obtain ⟨rfl⟩ := h
    exact hp
  | u, .nils, h, x, hp => by cases u <;> simp only [exV] at h; exact hp
  | u, .nilp, h, x, hp => by cases u <;> simp only [exV] at h; exact hp
  | u, .nilf, h, x, hp => by cases u <;> simp only [exV] at h; exact hp
  | u, .nili, h, x, hp => by cases u <;> simp only [exV] at h; exact hp
  | u, .row .., h, _, _ => by cases u <;> simp only [exV] at h
  | u, .ptr .., h, _, _ => by cases u <;> simp only [exV] at h
  | u, .eptr .., h, _, _ => by cases u <;> simp only [exV] at h
  | u, .agg m, h, x, hp => by
    cases u <;> simp only [exV] at h
    cases hp with
    | data hd => cases hd
    | agg l xs h1 h2 =>
      obtain ⟨g1, g2⟩ := exL_PV _ m h
      exact .agg m xs (h1.trans g1) fun j hj => g2 j (g1 ▸ hj) _ (h2 j (g1 ▸ hj))
  | u, .tup m, h, x, hp => by
    cases u <;> simp only [exV] at h
    cases hp with
    | data hd => cases hd
    | tup l xs h1 h2 =>
      obtain ⟨g1, g2⟩ := exL_PV _ m h
      exact .tup m xs (h1.trans g1) fun j hj => g2 j (g1 ▸ hj) _ (h2 j (g1 ▸ hj))
  | u, .fn g b d, h, x, hp => by
    cases u <;> simp only [exV] at h
    obtain ⟨h0, hq⟩ := of_cond_true h
    obtain rfl := Nat.eq_of_beq_eq_true h0
    cases hp with
    | data hd => cases hd
    | fn _ l k xs ys h1 h2 h3 h4 =>
      obtain ⟨g1, g2⟩ := exL_PV _ b hq.1
      obtain ⟨k1, k2⟩ := exL_PV _ d hq.2
      exact .fn _ b d xs ys (h1.trans g1) (fun j hj => g2 j (g1 ▸ hj) _ (h2 j (g1 ▸ hj))) (h3.trans k1) fun j hj => k2 j (k1 ▸ hj) _ (h4 j (k1 ▸ hj))
theorem exL_PV : ∀ (l m : List AV), exL l m → l.length = m.length ∧ ∀ j, j < l.length → ∀ x, PV R w (l.getD j .undef) x → PV R w (m.getD j .undef) x
  | [], [], _ => ⟨rfl, fun j hj => absurd hj (Nat.not_lt_zero _)⟩
  | [], _ :: _, h => by simp only [exL] at h
  | _ :: _, [], h => by simp only [exL] at h
  | a :: l, b :: m, h => by
    simp only [exL] at h
    obtain ⟨g1, g2⟩ := exL_PV l m h.2
    refine ⟨by simp [g1], fun j hj x hx => ?_⟩
    cases j with
    | zero => simpa using exV_PV a b h.1 x (by simpa using hx)
    | succ j => simpa using g2 j (by simpa using hj) x (by simpa using hx)
end
/-- A contract: for each ghost, what it takes, when, and what it hands back. -/
def con {X : Type} (args : X → List AV) (pre : X → Prop) (post : X → (AV → Prop) → Prop) : List AV → (AV → Prop) → Prop := fun us K => ∃ x, exL us (args x) ∧ Chk (pre x) ∧ post x K
theorem fits {X : Type} {args : X → List AV} {pre : X → Prop} {post : X → (AV → Prop) → Prop} (hT : TOk P TB) (hC : CallOk P Gl call) (hm : P.follows .mixedOrders = true) {f : FuncId} {fn : Func} (hf : FnOk P f fn) (hM : ∀ x (K K' : AV → Prop), (∀ r, K r → K' r) → post x K → post x K')
    (hb : ∀ x (K : AV → Prop), pre x → post x K → (args x).length ≤ fn.ntmps ∧ bodyP TB call (Dr TB call) 0 fn (args x) [] (out K)) : Fits P Gl f (con args pre post) := by
  have h0 := fits_of_body hT hC hm hf (C := fun us K => ∃ x, us = args x ∧ pre x ∧ post x K) (fun us K K' hk ⟨x, h1, h2, h3⟩ => ⟨x, h1, h2, hM x K K' hk h3⟩) fun us K ⟨x, h1, h2, h3⟩ => h1 ▸ hb x K h2 h3
  refine ⟨h0.has, fun us K K' hk ⟨x, h1, h2, h3⟩ => ⟨x, h1, h2, hM x K K' hk h3⟩, fun us K ⟨x, h1, h2, h3⟩ R w xs hL ha => h0.ok (args x) K ⟨x, rfl, h2.h, h3⟩ R w xs hL ?_⟩
  obtain ⟨g1, g2⟩ := exL_PV (R := R) (w := w) us (args x) h1
  exact ⟨ha.1.trans g1, fun j hj => g2 j (g1 ▸ hj) _ (ha.2 j (g1 ▸ hj))⟩
theorem apnd {n b : Nat} (hb : b ≤ 64) (h : n * 64 ≤ 140737488355328) : n * b ≤ 140737488355328 := Nat.le_trans (Nat.mul_le_mul_left _ hb) h
theorem wi64_eq (x : Int) : IntKind.i64.wrap x = if x % 18446744073709551616 ≥ 9223372036854775808 then x % 18446744073709551616 - 18446744073709551616 else x % 18446744073709551616 := by
  simp [IntKind.wrap, IntKind.signed, IntKind.bits]
theorem wi64 {x : Int} (h1 : -9223372036854775808 ≤ x) (h2 : x ≤ 9223372036854775807) : IntKind.i64.wrap x = x := by
  rw [wi64_eq]
  split <;> omega
theorem wi64r (x : Int) : -9223372036854775808 ≤ IntKind.i64.wrap x ∧ IntKind.i64.wrap x ≤ 9223372036854775807 := by
  rw [wi64_eq]
  split <;> omega
theorem wu64 {x : Int} (h1 : 0 ≤ x) (h2 : x ≤ 18446744073709551615) : IntKind.u64.wrap x = x := by
  simp only [IntKind.wrap, IntKind.signed, IntKind.bits, Bool.false_and]
  simp only [Bool.false_eq_true, if_false]
  omega
end
/-! ### The walk's steps, with what they ask looked for at once -/
section
variable {p A B : Prop} {K : AV → Prop}
theorem vA (hA : A) (h : p := by first | exact trivial | exact rfl | exact ⟨rfl, fun _ _ => rfl⟩ | exact ⟨rfl, rfl⟩ | omega | assumption | (refine ⟨?_, ?_⟩ <;> omega) | (refine ⟨?_, ?_, apnd ?_ ?_⟩; (focus omega); (focus omega); (focus decide); (focus omega)) | (refine ⟨?_, apnd ?_ ?_⟩; (focus omega); (focus decide); (focus omega)) | (refine ⟨?_, ?_⟩; (focus omega); (focus exact trivial)) | (simp <;> fail)) : Chk p ∧ A := ⟨⟨h⟩, hA⟩
theorem vW (h : p := by first | exact trivial | exact rfl | exact ⟨rfl, fun _ _ => rfl⟩ | exact ⟨rfl, rfl⟩ | omega | assumption | (refine ⟨?_, ?_⟩ <;> omega) | (refine ⟨?_, ?_, apnd ?_ ?_⟩; (focus omega); (focus omega); (focus decide); (focus omega)) | (refine ⟨?_, apnd ?_ ?_⟩; (focus omega); (focus decide); (focus omega)) | (refine ⟨?_, ?_⟩; (focus omega); (focus exact trivial)) | (simp <;> fail)) : Chk p := ⟨h⟩
theorem vB {x : Int} (hK : K (.int .i64 x)) (h1 : -9223372036854775808 ≤ x := by omega) (h2 : x ≤ 9223372036854775807 := by omega) : Wr .i64 x K := .ex (wi64 h1 h2) hK
theorem vT [Decidable p] (h : A) (hp : p := by first | omega | assumption) : Br (decide p) A B := br_dT hp h
theorem vF [Decidable p] (h : B) (hp : ¬ p := by first | omega | assumption) : Br (decide p) A B := br_dF hp h
theorem vP {b : Bool} (h : A) (hb : b = true := by assumption) : Br b A B := br_hT hb h
theorem vQ {b : Bool} (h : B) (hb : b = false := by assumption) : Br b A B := br_hF hb h
theorem vS {m : Nat} {A : (Exit → Fr → List Obj → Prop) → Prop} {B : Fr → List Obj → Prop} {Q : Exit → Fr → List Obj → Prop} (h : A fun e t o => match e with
      | .normal => Wk m t o B
      | e => Q e t o) : Sq m A B Q := .d h
theorem vR {m : Nat} {t : Fr} {o : List Obj} {F : Fr → List Obj → Prop} (h : F t o) : Wk m t o F := .rf h
theorem vM {b : Bool} (h : b = true → A) (h' : b = false → B) : Br b A B := .mk h h'
end
end Go.Proofs.YtbbgojaloebknaaDoor.Vc
