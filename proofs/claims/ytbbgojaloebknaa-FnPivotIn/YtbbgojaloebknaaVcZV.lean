/- Part ZV: swings and pivots of duals; all pivots together. -/
import Derived.Test.YtbbgojaloebknaaVcZU
namespace Go.Proofs.Ytbbgojaloebknaa.Vc
set_option maxRecDepth 10000
set_option maxHeartbeats 4000000
section
variable {p : Int} {bs : List Int} {t : List Mark}
structure Who (p : Int) (w : Nat) : Prop where
  pp : people p
  lt : (w : Int) < p
theorem Who.n {w : Nat} (h : Who p w) : p.toNat < 7 ∧ w < p.toNat ∧ ((p.toNat : Nat) : Int) = p ∧ (pw p).toNat = 2 ^ p.toNat ∧ pw p = ((2 ^ p.toNat : Nat) : Int) := by
  have h1 := h.pp.1
  have h2 := h.pp.2
  have h3 := h.lt
  have h4 := pw_nat h.pp
  exact ⟨by omega, by omega, by omega, by rw [h4, Int.toNat_natCast], h4⟩
theorem full_nat (h : people p) : full p = ((2 ^ p.toNat - 1 : Nat) : Int) := by
  have h4 := pw_nat h
  have h5 := pw_le h
  unfold full
  omega
theorem swing_dual (ht : termOk ⟨p, bs⟩ t) {w : Nat} (hw : Who p w) {c : Nat} (hc : c < 2 ^ p.toNat) : swing bs (dualT bs t) c w = swing bs t (compC p.toNat w c : Nat) w := by
  obtain ⟨n1, n2, n3, n4, n5⟩ := hw.n
  have hfull := full_nat hw.pp
  unfold swing
  cases e : has (c : Int) (w : Int) with
  | true =>
    have : compC p.toNat w c = c := by unfold compC; rw [if_pos e]
    rw [this, e]; rfl
  | false =>
    obtain ⟨k1, k2, k3, k4⟩ := comp_facts p.toNat n1 w n2 c hc e
    have ha := add_in p.toNat n1 w n2 c hc
    rw [says_dual ht (by omega) (by omega), says_dual ht ha.1 (by omega), hfull, k4, k2, k3, show ((2 ^ p.toNat - 1 : Nat) : Int) - c = ((2 ^ p.toNat - 1 - c : Nat) : Int) by omega]
    cases says bs (compC p.toNat w c : Nat) t <;> cases says bs ((2 ^ p.toNat - 1 - c : Nat) : Int) t <;> rfl
theorem len_dual (ht : termOk ⟨p, bs⟩ t) {w : Nat} (hw : Who p w) : (swl bs (dualT bs t) w (pw p).toNat).length = (swl bs t w (pw p).toNat).length := by
  obtain ⟨n1, n2, n3, n4, n5⟩ := hw.n
  have a := swl_len bs (dualT bs t) w (pw p).toNat
  have b := swl_len bs t w (pw p).toNat
  rw [n4] at a b ⊢
  have e : sumF (fun c => if swing bs (dualT bs t) c w then 1 else 0) (2 ^ p.toNat) = sumF (fun c => if swing bs t c w then 1 else 0) (2 ^ p.toNat) := by
    rw [← sumF_perm (perm_comp p.toNat n1 w n2) (fun c => if swing bs t c w then 1 else 0)]
    exact sumF_eq fun c hc => by rw [swing_dual ht hw hc]
  omega
theorem sum_dual (ht : termOk ⟨p, bs⟩ t) {w : Nat} (hw : Who p w) : sumO p (swl bs (dualT bs t) w (pw p).toNat) = sumO p (swl bs t w (pw p).toNat) := by
  obtain ⟨n1, n2, n3, n4, n5⟩ := hw.n
  rw [swl_sum, swl_sum, n4, ← sumF_perm (perm_comp p.toNat n1 w n2) (fun c => if swing bs t c w then ord p c else 0)]
  refine sumF_eq fun c hc => ?_
  rw [swing_dual ht hw hc]
  cases e : has (c : Int) (w : Int) with
  | true =>
    have : compC p.toNat w c = c := by unfold compC; rw [if_pos e]
    rw [this]
  | false =>
    have := comp_ord p.toNat n1 w n2 c hc e
    rw [n3] at this
    rw [this]
theorem len_half {w : Nat} (hw : Who p w) : ((swl bs t w (pw p).toNat).length : Int) ≤ ((2 ^ (p.toNat - 1) : Nat) : Int) := by
  obtain ⟨n1, n2, n3, n4, n5⟩ := hw.n
  rw [swl_len, n4, ← half_facts p.toNat n1 w n2]
  refine sumF_le fun c _ => ?_
  unfold swing
  cases has (c : Int) (w : Int) with
  | true => simp
  | false => simp only [Bool.false_eq_true, if_false]; split <;> decide
/-- All pivots together. -/
def toI (b : Bool) : Int := if b then 1 else 0
theorem sum_all (ht : termOk ⟨p, bs⟩ t) : sumF (fun w => sumO p (swl bs t (w : Int) (pw p).toNat)) p.toNat = fac p.toNat := by
  have pp : people p := ht.1.1
  have hp0 : 0 < p.toNat := by have := pp.1; omega
  have one : ∀ w, w < p.toNat → sumO p (swl bs t (w : Int) (pw p).toNat) = sumF (fun c => toI (says bs (c : Nat) t) * kap p.toNat w c) (2 ^ p.toNat) := by
    intro w hw
    have W : Who p w := ⟨pp, by omega⟩
    obtain ⟨n1, n2, n3, n4, n5⟩ := W.n
    rw [swl_sum, n4]
    have e1 : sumF (fun c => if swing bs t c w then ord p c else 0) (2 ^ p.toNat) = sumF (fun c => (if has (c : Int) (w : Int) then 0 else toI (says bs (add (c : Nat) (w : Nat)) t) * ord p c) + (if has (c : Int) (w : Int) then 0 else - toI (says bs (c : Nat) t) * ord p c)) (2 ^ p.toNat) := by
      refine sumF_eq fun c hc => ?_
      unfold swing
      cases e : has (c : Int) (w : Int) with
      | true => simp
      | false =>
        simp only [Bool.not_false, Bool.true_and, Bool.false_eq_true, if_false]
        cases e1 : says bs (c : Int) t with
        | true =>
          rw [says_mono ht (by omega) (by omega) (by omega) W.lt e1]
          simp [toI]
          omega
        | false =>
          cases e2 : says bs (add (c : Int) (w : Int)) t <;> simp [toI]
    rw [e1, sumF_add]
    have e2 : sumF (fun c => if has (c : Int) (w : Int) then 0 else toI (says bs (add (c : Nat) (w : Nat)) t) * ord p c) (2 ^ p.toNat) = sumF (fun c => if has (c : Int) (w : Int) then toI (says bs (c : Nat) t) * ord p (flipC w c : Nat) else 0) (2 ^ p.toNat) := by
      rw [← sumF_perm (perm_flip p.toNat n1 w n2) (fun c => if has (c : Int) (w : Int) then 0 else toI (says bs (add (c : Nat) (w : Nat)) t) * ord p c)]
      refine sumF_eq fun c hc => ?_
      obtain ⟨f1, f2⟩ := flip_facts p.toNat n1 w n2 c hc
      rw [f1]
      cases e : has (c : Int) (w : Int) with
      | true => rw [f2 e]; simp
      | false => simp
    rw [e2, ← sumF_add]
    refine sumF_eq fun c hc => ?_
    unfold kap
    rw [n3]
    cases e : has (c : Int) (w : Int) with
    | true => simp
    | false => simp [Int.neg_mul, Int.mul_neg]
  have n1 : p.toNat < 7 := by have := pp.2; omega
  rw [sumF_eq one, sumF_swap]
  have e3 : ∀ c, c < 2 ^ p.toNat → sumF (fun w => toI (says bs (c : Nat) t) * kap p.toNat w c) p.toNat = if c = 2 ^ p.toNat - 1 then fac p.toNat else 0 := by
    intro c hc
    rw [sumF_mul, kap_sum p.toNat n1 hp0 c hc]
    by_cases h1 : c = 2 ^ p.toNat - 1
    · rw [if_pos h1, if_pos h1, h1, ← full_nat pp, says_full ht]; simp [toI]
    · rw [if_neg h1, if_neg h1]
      by_cases h2 : c = 0
      · subst h2
        rw [if_pos rfl, show ((0 : Nat) : Int) = 0 from rfl, says_none ht]; simp [toI]
      · rw [if_neg h2]; simp
  rw [sumF_eq e3, sumF_delta, if_pos]
  have := Nat.two_pow_pos p.toNat
  omega
/-- The first person is at least as strong as the second one. -/
def stronger (bs : List Int) (t : List Mark) (a b : Nat) (n : Nat) : Prop := ∀ c, c < n → has (c : Nat) (a : Nat) = false → has (c : Nat) (b : Nat) = false → says bs (add (c : Nat) (b : Nat)) t = true → says bs (add (c : Nat) (a : Nat)) t = true
theorem stronger_self (a n : Nat) : stronger bs t a a n := fun _ _ _ _ h => h
theorem swing_le {a b : Nat} (hs : stronger bs t a b (2 ^ p.toNat)) (ha : Who p a) (hb : Who p b) (hab : a ≠ b) {c : Nat} (hc : c < 2 ^ p.toNat) (h : swing bs t c b = true) : swing bs t (swapC a b c : Nat) a = true := by
  obtain ⟨n1, n2, n3, n4, n5⟩ := ha.n
  obtain ⟨_, m2, _⟩ := hb.n
  unfold swing at h ⊢
  simp only [Bool.and_eq_true, Bool.not_eq_true'] at h ⊢
  obtain ⟨⟨h1, h2⟩, h3⟩ := h
  obtain ⟨k1, k2, k3, k4⟩ := swap_facts p.toNat n1 a n2 b m2 hab c hc h1
  cases e : has (c : Int) (a : Int) with
  | false =>
    rw [k3 e]
    exact ⟨⟨e, h2⟩, hs c hc e h1 h3⟩
  | true =>
    obtain ⟨g1, g2, g3, g4, g5, g6⟩ := k4 e
    have := hs _ g1 g2 g3
    rw [g4, g5, h2] at this
    rw [g6]
    refine ⟨⟨k1, ?_⟩, h3⟩
    cases e2 : says bs (swapC a b c : Nat) t with
    | false => rfl
    | true => exact absurd (this e2) (by decide)
theorem strong_sum (f : Nat → Int) (hf0 : ∀ c, c < 2 ^ p.toNat → 0 ≤ f c) {a b : Nat} (hf : ∀ c, c < 2 ^ p.toNat → f (swapC a b c) = f c) (hs : stronger bs t a b (2 ^ p.toNat)) (ha : Who p a) (hb : Who p b) :
    sumF (fun c => if swing bs t c b then f c else 0) (2 ^ p.toNat) ≤ sumF (fun c => if swing bs t c a then f c else 0) (2 ^ p.toNat) := by
  obtain ⟨n1, n2, n3, n4, n5⟩ := ha.n
  obtain ⟨_, m2, _⟩ := hb.n
  by_cases hab : a = b
  · subst hab; exact Int.le_refl _
  rw [← sumF_perm (perm_swap p.toNat n1 a n2 b m2) (fun c => if swing bs t c a then f c else 0)]
  refine sumF_le fun c hc => ?_
  have h0 := hf0 c hc
  cases e : swing bs t (c : Nat) b with
  | true => rw [if_pos rfl, if_pos (swing_le hs ha hb hab hc e), hf c hc]; exact Int.le_refl _
  | false =>
    rw [if_neg (by decide)]
    split
    · rw [hf c hc]; exact h0
    · decide
theorem strong_len {a b : Nat} (hs : stronger bs t a b (2 ^ p.toNat)) (ha : Who p a) (hb : Who p b) : (swl bs t b (pw p).toNat).length ≤ (swl bs t a (pw p).toNat).length := by
  have := strong_sum (fun _ => 1) (fun _ _ => by decide) (fun _ _ => rfl) hs ha hb
  have e1 := swl_len bs t a (pw p).toNat
  have e2 := swl_len bs t b (pw p).toNat
  rw [ha.n.2.2.2.1] at e1 e2 ⊢
  omega
theorem strong_piv {a b : Nat} (hs : stronger bs t a b (2 ^ p.toNat)) (ha : Who p a) (hb : Who p b) : sumO p (swl bs t b (pw p).toNat) ≤ sumO p (swl bs t a (pw p).toNat) := by
  obtain ⟨n1, n2, n3, n4, n5⟩ := ha.n
  obtain ⟨_, m2, _⟩ := hb.n
  have pl := pw_le ha.pp
  rw [swl_sum, swl_sum, n4]
  refine strong_sum (fun c => ord p c) (fun c hc => (ord_le ha.pp.2 (by omega) (by omega)).1) (fun c hc => ?_) hs ha hb
  have := swap_heads a (by omega) b (by omega) c (by omega)
  show ord p (swapC a b c : Nat) = ord p (c : Nat)
  unfold ord
  rw [Int.toNat_natCast, Int.toNat_natCast, this]
theorem strong_dual1 {u : List Mark} {a b : Nat} (hu : ∀ c : Int, 0 ≤ c → c < pw p → says bs c u = !says bs (full p - c) t) (hs : stronger bs t a b (2 ^ p.toNat)) (ha : Who p a) (hb : Who p b) : stronger bs u a b (2 ^ p.toNat) := by
  obtain ⟨n1, n2, n3, n4, n5⟩ := ha.n
  obtain ⟨_, m2, _⟩ := hb.n
  by_cases hab : a = b
  · subst hab; exact stronger_self _ _
  intro c hc h1 h2 h3
  obtain ⟨g1, g2, g3, g4, g5⟩ := both_facts p.toNat n1 a n2 b m2 hab c hc h1 h2
  have i1 := add_in p.toNat n1 a n2 c hc
  have i2 := add_in p.toNat n1 b m2 c hc
  have hfull := full_nat ha.pp
  rw [hu _ i2.1 (by omega), hfull, g4] at h3
  rw [hu _ i1.1 (by omega), hfull, g5]
  have := hs _ g1 g2 g3
  cases e : says bs (add (bothC p.toNat a b c : Nat) (b : Nat)) t with
  | false => rfl
  | true => rw [this e] at h3; cases h3
theorem strong_dual (ht : termOk ⟨p, bs⟩ t) {a b : Nat} (ha : Who p a) (hb : Who p b) : stronger bs (dualT bs t) a b (2 ^ p.toNat) ↔ stronger bs t a b (2 ^ p.toNat) := by
  have h1 : ∀ c : Int, 0 ≤ c → c < pw p → says bs c (dualT bs t) = !says bs (full p - c) t := fun c g1 g2 => says_dual ht g1 g2
  refine ⟨fun h => strong_dual1 (fun c g1 g2 => ?_) h ha hb, fun h => strong_dual1 h1 h ha hb⟩
  have := h1 (full p - c) (by unfold full; omega) (by unfold full; omega)
  rw [this, show full p - (full p - c) = c by omega, Bool.not_not]
end
end Go.Proofs.Ytbbgojaloebknaa.Vc
