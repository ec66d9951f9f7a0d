/- Part ZL: pivots over all orders. -/
import Derived.Test.YtbbgojaloebknaaVcZK
namespace Go.Proofs.Ytbbgojaloebknaa.Vc
open Go.Proofs
set_option maxRecDepth 10000
set_option maxHeartbeats 4000000
/-- Orders in which just this crowd stands ahead. -/
def ord (p c : Int) : Int := fac (heads c.toNat) * fac (p - 1 - heads c.toNat).toNat
def sumO (p : Int) : List Int → Int
  | [] => 0
  | c :: l => ord p c + sumO p l
theorem sumO_app (p : Int) : ∀ (l m : List Int), sumO p (l ++ m) = sumO p l + sumO p m
  | [], m => by simp [sumO]
  | c :: l, m => by simp only [List.cons_append, sumO, sumO_app p l m]; omega
theorem heads6 : ∀ c, c < 64 → heads c ≤ 6 := by decide +kernel
theorem fac0 (k : Int) (h : k ≤ 6) : 1 ≤ fac k.toNat ∧ fac k.toNat ≤ 720 := fac_le k.toNat (by omega)
theorem ord_le {p c : Int} (h1 : p ≤ 6) (h2 : 0 ≤ c) (h3 : c < 64) : 0 ≤ ord p c ∧ ord p c ≤ 518400 := by
  have a := fac_le (heads c.toNat) (by have := heads6 c.toNat (by omega); omega)
  have b := fac0 (p - 1 - heads c.toNat) (by omega)
  unfold ord
  refine ⟨Int.mul_nonneg (by omega) (by omega), ?_⟩
  have := Int.mul_le_mul a.2 b.2 (by omega) (by omega)
  omega
structure Ox where
  h : House
  t : List Mark
  who : Int
def pivotsOf (x : Ox) : Int := if termOk x.h x.t ∧ 0 ≤ x.who ∧ x.who < x.h.p then sumO x.h.p (swl x.h.bs x.t x.who (pw x.h.p).toNat) else -1
def C26 : List AV → (AV → Prop) → Prop := con (X := Ox) (fun x => [enH x.h, slM x.t, .int .i64 x.who]) (fun x => termI x.h x.t ∧ i64r x.who) fun x K => K (.int .i64 (pivotsOf x))
theorem swl_lt (bs : List Int) (t : List Mark) (w : Int) : ∀ k, ∀ c ∈ swl bs t w k, 0 ≤ c ∧ c < k
  | 0, c, h => by cases h
  | k + 1, c, h => by
    unfold swl at h
    split at h
    · rcases List.mem_append.1 h with h | h
      · have := swl_lt bs t w k c h; omega
      · simp at h; omega
    · have := swl_lt bs t w k c h; omega
theorem sumO_le {p : Int} (hp : p ≤ 6) : ∀ l : List Int, (∀ c ∈ l, 0 ≤ c ∧ c < 64) → 0 ≤ sumO p l ∧ sumO p l ≤ 518400 * l.length
  | [], _ => by simp [sumO]
  | c :: l, h => by
    have h1 := ord_le hp (h c List.mem_cons_self).1 (h c List.mem_cons_self).2
    have h2 := sumO_le hp l fun d hd => h d (List.mem_cons_of_mem _ hd)
    simp only [sumO, List.length_cons]
    omega
theorem sumO_take {p : Int} {l : List Int} {i : Nat} (h : i < l.length) : sumO p (l.take (i + 1)) = sumO p (l.take i) + ord p (l.getD i 0) := by
  rw [take_succ' 0 h, sumO_app]
  simp [sumO]
theorem sayOk_of {p : Int} {bs : List Int} {t : List Mark} (h : termOk ⟨p, bs⟩ t) (c : Int) (h1 : 0 ≤ c) (h2 : c < 64) : sayOk ⟨p, bs, t, c⟩ := by
  have pp : people p := h.1.1
  have pw2 := (pw_le pp).2
  have := h.2.1
  exact ⟨by show t.length < 4611686018427387904; have : t.length ≤ 9 := this; omega, h.2.2, fun b hb => by have g : crowd p b := (h.1.2.2 b hb).1; have := g.2; omega, h1, h2⟩
theorem F26 : FF 26 C26 := by
  refine fitE [(38, C38), (43, C43), (50, C50), (49, C49)] (by simp only [List.mem_cons, List.not_mem_nil, or_false]; rintro _ (rfl | rfl | rfl | rfl) <;> first | exact F38 | exact F43 | exact F50 | exact F49) Try.f26 ⟨rfl, by decide +kernel, by decide +kernel⟩ (fun _ _ _ hk h => hk _ h) ?_
  rintro ⟨⟨p, bs⟩, t, w⟩ K ⟨hI, hw⟩ h
  refine ⟨Nat.le_of_ble_eq_true rfl, ?_⟩
  dsimp only at h hI hw ⊢
  unfold pivotsOf at h
  dsimp only at h
  repeat' ((conv => whnf); first | refine vA ?_ | with_reducible first | refine vS ?_ | refine vR ?_ | refine vB ?_ | refine br_nt ?_ | refine br_tt ?_ | refine br_ff ?_ | refine vP ?_ | refine vQ ?_ | refine vT ?_ | refine vF ?_ | refine br_and ?_ | refine br_or ?_ | refine br_d (fun _ => ?_) fun _ => ?_ | refine vM (fun _ => ?_) fun _ => ?_)
  refine ⟨(⟨p, bs⟩, t), ?_, ⟨hI⟩, ?_⟩
  · repeat' ((conv => whnf); first | with_reducible exact True.intro | exact vW | with_reducible refine And.intro ?_ ?_)
  repeat' ((conv => whnf); first | refine vA ?_ | with_reducible first | refine vS ?_ | refine vR ?_ | refine vB ?_ | refine br_nt ?_ | refine br_tt ?_ | refine br_ff ?_ | refine vP ?_ | refine vQ ?_ | refine vT ?_ | refine vF ?_ | refine br_and ?_ | refine br_or ?_ | refine br_d (fun _ => ?_) fun _ => ?_ | refine vM (fun _ => ?_) fun _ => ?_)
  · rename_i hO h1
    rw [if_neg (fun q => by have := q.2.1; omega)] at h
    exact h
  · rename_i hO _ h2
    rw [if_neg (fun q => by have := q.2.2; have h2 : p ≤ w := h2; omega)] at h
    exact h
  · rename_i hO h1 h2
    replace h2 : ¬ p ≤ w := h2
    have hO' : termOk ⟨p, bs⟩ t := hO
    rw [if_pos ⟨hO', by omega, by omega⟩] at h
    have pp : people p := hO'.1.1
    have pw2 := pw_le pp
    have hp := pp.2
    have hl := swl_lt bs t w (pw p).toNat
    have hll := swl_le bs t w (pw p).toNat
    refine ⟨⟨p, bs, t, w⟩, ?_, ⟨pp, sayOk_of hO', hO'.2.1, by show 0 ≤ w; omega, by show w < 6; omega⟩, ?_⟩
    · repeat' ((conv => whnf); first | with_reducible exact True.intro | exact vW | with_reducible refine And.intro ?_ ?_)
    dsimp only
    generalize hL : swl bs t w (pw p).toNat = L at h hl hll ⊢
    have hl2 : ∀ c ∈ L, 0 ≤ c ∧ c < 64 := fun c hc => by have := hl c hc; omega
    repeat' ((conv => whnf); first | refine vA ?_ | with_reducible first | refine vS ?_ | refine vR ?_ | refine vB ?_ | refine br_nt ?_ | refine br_tt ?_ | refine br_ff ?_ | refine vP ?_ | refine vQ ?_ | refine vT ?_ | refine vF ?_ | refine br_and ?_ | refine br_or ?_ | refine br_d (fun _ => ?_) fun _ => ?_ | refine vM (fun _ => ?_) fun _ => ?_)
    refine Lp.mk ⟨Nat, fun i => [(3, .ptr 0 0), (7, .int .i64 (sumO p (L.take i))), (27, slI L), (28, .int .i64 L.length), (29, .int .i64 i)],
      fun i => [.box [.int .i64 p, slI bs]], fun i => i ≤ L.length, fun i => L.length - i, ⟨0, Nat.zero_le _, ⟨⟨[some 0], [], rfl, rfl, ?_, ?_⟩⟩⟩, ?_⟩
    · repeat' ((conv => whnf); first | with_reducible exact True.intro | exact vW | with_reducible refine And.intro ?_ ?_)
    · repeat' ((conv => whnf); first | with_reducible exact True.intro | exact vW | with_reducible refine And.intro ?_ ?_)
    intro i i1
    dsimp only
    have hs := sumO_le hp (L.take i) fun c hc => hl2 c (List.mem_of_mem_take hc)
    have ht : (L.take i).length ≤ 64 := by rw [List.length_take]; omega
    repeat' ((conv => whnf); first | refine vA ?_ | with_reducible first | refine vS ?_ | refine vR ?_ | refine vB ?_ | refine br_nt ?_ | refine br_tt ?_ | refine br_ff ?_ | refine vP ?_ | refine vQ ?_ | refine vT ?_ | refine vF ?_ | refine br_and ?_ | refine br_or ?_ | refine br_d (fun _ => ?_) fun _ => ?_ | refine vM (fun _ => ?_) fun _ => ?_)
    · rename_i hi
      replace hi : i < L.length := by omega
      have hc := hl2 _ (getD_mem' (d := 0) hi)
      have ho := ord_le hp hc.1 hc.2
      have hh := heads6 (L.getD i 0).toNat (by omega)
      have hs2 := sumO_take (p := p) hi
      have f1 := fac_le (heads (L.getD i 0).toNat) (by omega)
      have f2 := fac0 (p - 1 - heads (L.getD i 0).toNat) (by omega)
      refine Dr.mk ⟨[0, 1, 4, 5, 6, 7, 2, 3, 8, 9, 10, 11, 12, 13], by decide +kernel, ?_⟩
      repeat' ((conv => whnf); first | refine vA ?_ | with_reducible first | refine vS ?_ | refine vR ?_ | refine vB ?_ | refine br_nt ?_ | refine br_tt ?_ | refine br_ff ?_ | refine vP ?_ | refine vQ ?_ | refine vT ?_ | refine vF ?_ | refine br_and ?_ | refine br_or ?_ | refine br_d (fun _ => ?_) fun _ => ?_ | refine vM (fun _ => ?_) fun _ => ?_)
      refine ⟨L.getD i 0, ?_, ⟨hc⟩, ?_⟩
      · repeat' ((conv => whnf); first | with_reducible exact True.intro | exact vW | with_reducible refine And.intro ?_ ?_)
      repeat' ((conv => whnf); first | refine vA ?_ | with_reducible first | refine vS ?_ | refine vR ?_ | refine vB ?_ | refine br_nt ?_ | refine br_tt ?_ | refine br_ff ?_ | refine vP ?_ | refine vQ ?_ | refine vT ?_ | refine vF ?_ | refine br_and ?_ | refine br_or ?_ | refine br_d (fun _ => ?_) fun _ => ?_ | refine vM (fun _ => ?_) fun _ => ?_)
      refine ⟨heads (L.getD i 0).toNat, ?_, ⟨by omega⟩, ?_⟩
      · repeat' ((conv => whnf); first | with_reducible exact True.intro | exact vW | with_reducible refine And.intro ?_ ?_)
      have ho' : 0 ≤ fac ((heads (L.getD i 0).toNat : Nat) : Int).toNat * fac (p - 1 - heads (L.getD i 0).toNat).toNat ∧ fac ((heads (L.getD i 0).toNat : Nat) : Int).toNat * fac (p - 1 - heads (L.getD i 0).toNat).toNat ≤ 518400 := by rw [Int.toNat_natCast]; exact ho
      repeat' ((conv => whnf); first | refine vA ?_ | with_reducible first | refine vS ?_ | refine vR ?_ | refine vB ?_ | refine br_nt ?_ | refine br_tt ?_ | refine br_ff ?_ | refine vP ?_ | refine vQ ?_ | refine vT ?_ | refine vF ?_ | refine br_and ?_ | refine br_or ?_ | refine br_d (fun _ => ?_) fun _ => ?_ | refine vM (fun _ => ?_) fun _ => ?_)
      refine ⟨L.getD i 0, ?_, ⟨hc⟩, ?_⟩
      · repeat' ((conv => whnf); first | with_reducible exact True.intro | exact vW | with_reducible refine And.intro ?_ ?_)
      repeat' ((conv => whnf); first | refine vA ?_ | with_reducible first | refine vS ?_ | refine vR ?_ | refine vB ?_ | refine br_nt ?_ | refine br_tt ?_ | refine br_ff ?_ | refine vP ?_ | refine vQ ?_ | refine vT ?_ | refine vF ?_ | refine br_and ?_ | refine br_or ?_ | refine br_d (fun _ => ?_) fun _ => ?_ | refine vM (fun _ => ?_) fun _ => ?_)
      refine ⟨p - 1 - heads (L.getD i 0).toNat, ?_, ⟨by have := pp.1; omega⟩, ?_⟩
      · repeat' ((conv => whnf); first | with_reducible exact True.intro | exact vW | with_reducible refine And.intro ?_ ?_)
      repeat' ((conv => whnf); first | with_reducible refine Wr.ex (wi64 (by omega) (by omega)) ?_ | refine vA ?_ | with_reducible first | refine vS ?_ | refine vR ?_ | refine vB ?_ | refine br_nt ?_ | refine br_tt ?_ | refine br_ff ?_ | refine vP ?_ | refine vQ ?_ | refine vT ?_ | refine vF ?_ | refine br_and ?_ | refine br_or ?_ | refine br_d (fun _ => ?_) fun _ => ?_ | refine vM (fun _ => ?_) fun _ => ?_)
      refine ⟨i + 1, by show i + 1 ≤ L.length; omega, by show L.length - (i + 1) < L.length - i; omega, ⟨⟨[some 0], [], rfl, rfl, ?_, ?_⟩⟩⟩
      · repeat' ((conv => whnf); first | with_reducible exact True.intro | exact vW | with_reducible refine And.intro ?_ ?_)
        all_goals exact Chk.mk hs2
      · repeat' ((conv => whnf); first | with_reducible exact True.intro | exact vW | with_reducible refine And.intro ?_ ?_)
    · rw [List.take_of_length_le (by omega)]
      exact h
  · rename_i hO
    rw [if_neg (fun q => hO q.1)] at h
    exact h
end Go.Proofs.Ytbbgojaloebknaa.Vc
