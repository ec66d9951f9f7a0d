/- Part ZA: terms, plain: parts, and what a term says. -/
import Derived.Test.YtbbgojaloebknaaVcZ
namespace Go.Proofs.Ytbbgojaloebknaa.Vc
/-- How many of a body are in the crowd. -/
def band (a b : Int) : Int := bitop .i64 .and a b
def bor (a b : Int) : Int := bitop .i64 .or a b
theorem band_comm (a b : Int) : band a b = band b a := by
  unfold band bitop
  simp only [BitVec.and_comm]
theorem band_small : ∀ a, a < 64 → ∀ b, b < 64 → 0 ≤ band (a : Nat) (b : Nat) ∧ band (a : Nat) (b : Nat) < 64 := by decide +kernel
theorem band_lt {a b : Int} (h1 : 0 ≤ a) (h2 : a < 64) (h3 : 0 ≤ b) (h4 : b < 64) : 0 ≤ band a b ∧ band a b < 64 := by
  have := band_small a.toNat (by omega) b.toNat (by omega)
  rwa [Int.toNat_of_nonneg h1, Int.toNat_of_nonneg h3] at this
def cnt (bs : List Int) (c : Int) (m : Mark) : Bool := decide ((heads (band (bs.getD m.at_.toNat 0) c).toNat : Int) ≥ m.need)
def stepS (bs : List Int) (c : Int) (m : Mark) (s : List Bool) : List Bool :=
  if m.kind = 0 then cnt bs c m :: s
  else match s with
    | b :: a :: r => (if m.kind = 2 then a || b else a && b) :: r
    | s => s
def runS (bs : List Int) (c : Int) : List Mark → List Bool → List Bool
  | [], s => s
  | m :: t, s => runS bs c t (stepS bs c m s)
def says (bs : List Int) (c : Int) (t : List Mark) : Bool := (runS bs c t []).headD false
section
variable {bs : List Int} {c : Int}
theorem runS_app : ∀ (l m : List Mark) (s : List Bool), runS bs c (l ++ m) s = runS bs c m (runS bs c l s)
  | [], _, _ => rfl
  | _ :: l, m, _ => runS_app l m _
theorem stepP_kind {m : Mark} {k j : Nat} (h : stepP bs m k = some j) : (m.kind = 0 ∧ j = k + 1) ∨ (m.kind ≠ 0 ∧ (m.kind = 1 ∨ m.kind = 2) ∧ 2 ≤ k ∧ j = k - 1) := by
  unfold stepP at h
  split at h
  · injection h with h; exact .inl ⟨by omega, h.symm⟩
  · split at h
    · injection h with h; exact .inr ⟨by omega, by omega, by omega, h.symm⟩
    · cases h
/-- A mark that may stand behind k parts may stand behind more. -/
theorem stepP_more {m : Mark} {k j : Nat} (d : Nat) (h : stepP bs m k = some j) : stepP bs m (k + d) = some (j + d) := by
  unfold stepP at h ⊢
  split at h
  · rename_i h1; injection h with h; rw [if_pos h1, ← h]; congr 1; omega
  · rename_i h1
    split at h
    · rename_i h2; injection h with h; rw [if_neg h1, if_pos (by omega), ← h]; congr 1; omega
    · cases h
theorem stepP_less {m : Mark} {k j : Nat} (d : Nat) (h : stepP bs m (k + d) = some (j + d)) (hj : 1 ≤ j) : stepP bs m k = some j := by
  unfold stepP at h ⊢
  split at h
  · rename_i h1; injection h with h; rw [if_pos h1]; congr 1; omega
  · rename_i h1
    split at h
    · rename_i h2; injection h with h; rw [if_neg h1, if_pos (by omega)]; congr 1; omega
    · cases h
theorem runS_frame : ∀ (l : List Mark) (s r : List Bool) (j : Nat), walkP bs l s.length = some j → runS bs c l (s ++ r) = runS bs c l s ++ r ∧ (runS bs c l s).length = j
  | [], s, r, j, h => by injection h with h; exact ⟨rfl, h⟩
  | m :: l, s, r, j, h => by
    simp only [walkP] at h
    cases e : stepP bs m s.length with
    | none => rw [e] at h; cases h
    | some k =>
      rw [e] at h
      simp only [Option.bind_some] at h
      have hs : stepS bs c m (s ++ r) = stepS bs c m s ++ r ∧ (stepS bs c m s).length = k := by
        rcases stepP_kind e with ⟨h1, h2⟩ | ⟨h1, _, h3, h2⟩
        · unfold stepS; rw [if_pos h1, if_pos h1]; exact ⟨rfl, by simp [h2]⟩
        · unfold stepS; rw [if_neg h1, if_neg h1]
          match s, h3 with
          | x :: y :: z, _ => exact ⟨rfl, by simp [h2]⟩
      show runS bs c l (stepS bs c m (s ++ r)) = runS bs c l (stepS bs c m s) ++ r ∧ (runS bs c l (stepS bs c m s)).length = j
      rw [hs.1]
      exact runS_frame l _ r j (by rw [hs.2]; exact h)
/-- A walk that never comes down to where it began is a walk from nothing. -/
theorem walk_shift (d : Nat) : ∀ (l : List Mark) (k j : Nat), walkP bs l (k + d) = some (j + d) → (∀ n, n ≤ l.length → ∀ q, walkP bs (l.take n) (k + d) = some q → n = 0 ∨ d + 1 ≤ q) → walkP bs l k = some j
  | [], k, j, h, _ => by
    simp only [walkP, Option.some.injEq] at h ⊢
    omega
  | m :: l, k, j, h, hn => by
    simp only [walkP] at h ⊢
    cases e : stepP bs m (k + d) with
    | none => rw [e] at h; cases h
    | some q =>
      rw [e] at h
      simp only [Option.bind_some] at h
      have h1 := hn 1 (by simp) q (by simp [walkP, e])
      have hq : q = (q - d) + d := by omega
      rw [hq] at e h
      have e' := stepP_less d e (by omega)
      rw [e']
      simp only [Option.bind_some]
      refine walk_shift d l (q - d) j h fun n hl q' hq' => ?_
      have := hn (n + 1) (by simpa using hl) q' (by simp only [List.take_succ_cons, walkP]; rw [hq, e] at *; simpa using hq')
      omega
theorem walk_prefix {t : List Mark} {k : Nat} (h : walkP bs t 0 = some k) (i : Nat) : ∃ q, walkP bs (t.take i) 0 = some q := by
  cases e : walkP bs (t.take i) 0 with
  | some q => exact ⟨q, rfl⟩
  | none => rw [walkP_none e] at h; cases h
end
open Go.Proofs
set_option maxRecDepth 10000
set_option maxHeartbeats 4000000
structure St where
  bs : List Int
  t : List Mark
  e : Nat
  k : Nat
/-- Where the part that ends there starts. -/
def starts (x : St) (s : Nat) : Prop := s ≤ x.e ∧ walkP x.bs (x.t.take s) 0 = some (x.k - 1) ∧ ∀ j, s < j → j ≤ x.e + 1 → ∀ q, walkP x.bs (x.t.take j) 0 = some q → x.k ≤ q
def C56 : List AV → (AV → Prop) → Prop := con (X := St) (fun x => [slM x.t, .int .i64 x.e]) (fun x => x.e < x.t.length ∧ x.t.length < 4611686018427387904 ∧ 1 ≤ x.k ∧ walkP x.bs (x.t.take (x.e + 1)) 0 = some x.k) fun x K => ∀ s : Nat, starts x s → K (.int .i64 s)
theorem F56 : FF 56 C56 := by
  refine fitE [] (by simp) Try.f56 ⟨rfl, by decide +kernel, by decide +kernel⟩ (fun _ _ _ hk h s hs => hk _ (h s hs)) ?_
  rintro ⟨bs, t, e, k⟩ K ⟨h1, h2, h3, h4⟩ h
  refine ⟨Nat.le_of_ble_eq_true rfl, ?_⟩
  dsimp only at h h1 h2 h3 h4 ⊢
  repeat' ((conv => whnf); first | refine vA ?_ | with_reducible first | refine vS ?_ | refine vR ?_ | refine vB ?_ | refine br_nt ?_ | refine br_tt ?_ | refine br_ff ?_ | refine vP ?_ | refine vQ ?_ | refine vT ?_ | refine vF ?_ | refine br_and ?_ | refine br_or ?_ | refine br_d (fun _ => ?_) fun _ => ?_ | refine vM (fun _ => ?_) fun _ => ?_)
  refine Lp.mk ⟨Nat × Nat, fun x => [(0, slM t), (5, .int .i64 x.2), (6, .int .i64 (x.1 - 1))], fun _ => [], fun x => x.1 ≤ e + 1 ∧ walkP bs (t.take x.1) 0 = some (k - 1 + x.2) ∧ ∀ j, x.1 < j → j ≤ e + 1 → ∀ q, walkP bs (t.take j) 0 = some q → k ≤ q, fun x => x.1, ⟨(e + 1, 1), ⟨Nat.le_refl _, by rw [h4]; congr 1; omega, fun j h1 h2 => by omega⟩, ⟨⟨[], [], rfl, rfl, ?_, ?_⟩⟩⟩, ?_⟩
  · repeat' ((conv => whnf); first | with_reducible exact True.intro | exact vW | with_reducible refine And.intro ?_ ?_)
  · repeat' ((conv => whnf); first | with_reducible exact True.intro | exact vW | with_reducible refine And.intro ?_ ?_)
  rintro ⟨a, n⟩ ⟨i1, i2, i3⟩
  dsimp only at i1 i2 i3 ⊢
  have nle : n ≤ e + 2 := by
    have := walkP_le bs _ _ _ i2
    simp only [List.length_take] at this
    omega
  have a1 : 0 < n → 1 ≤ a := fun hn => by
    rcases Nat.eq_zero_or_pos a with rfl | h
    · simp only [List.take_zero, walkP, Option.some.injEq] at i2; omega
    · exact h
  have above : ∀ j, a - 1 < j → 0 < n → j ≤ e + 1 → ∀ q, walkP bs (t.take j) 0 = some q → k ≤ q := fun j hj hn hje q hq => by
    by_cases hja : j = a
    · subst hja; rw [i2] at hq; injection hq with hq; omega
    · exact i3 j (by omega) hje q hq
  have back : 0 < n → ∃ q, walkP bs (t.take (a - 1)) 0 = some q ∧ stepP bs (t.getD (a - 1) default) q = some (k - 1 + n) := fun hn => by
    have := a1 hn
    obtain ⟨q, hq⟩ := walk_prefix i2 (a - 1)
    rw [List.take_take, Nat.min_eq_left (by omega)] at hq
    refine ⟨q, hq, ?_⟩
    rw [← walkP_take (by omega) hq, show a - 1 + 1 = a by omega]
    exact i2
  repeat' ((conv => whnf); first | ((with_reducible refine And.intro (Chk.mk ?_) ?_); focus (have := a1 (by omega); omega)) | refine vA ?_ | with_reducible first | refine vS ?_ | refine vR ?_ | refine vB ?_ | refine br_nt ?_ | refine br_tt ?_ | refine br_ff ?_ | refine vP ?_ | refine vQ ?_ | refine vT ?_ | refine vF ?_ | refine br_and ?_ | refine br_or ?_ | refine br_d (fun _ => ?_) fun _ => ?_ | refine vM (fun _ => ?_) fun _ => ?_)
  · rename_i hn hk
    have hn : 0 < n := by omega
    have ha := a1 hn
    obtain ⟨q, q1, q2⟩ := back hn
    have e1 : ((a : Int) - 1).toNat = a - 1 := by omega
    rw [e1] at hk
    rcases stepP_kind q2 with ⟨_, g⟩ | ⟨g, _⟩
    · refine ⟨(a - 1, n - 1), ⟨by show a - 1 ≤ e + 1; omega, by show walkP bs (t.take (a - 1)) 0 = some (k - 1 + (n - 1)); rw [q1]; congr 1; omega, fun j hj hje => above j hj hn hje⟩, by show a - 1 < a; omega, ⟨⟨[], [], rfl, rfl, ?_, ?_⟩⟩⟩
      · repeat' ((conv => whnf); first | with_reducible exact True.intro | exact vW | with_reducible refine And.intro ?_ ?_)
      · repeat' ((conv => whnf); first | with_reducible exact True.intro | exact vW | with_reducible refine And.intro ?_ ?_)
    · exact absurd hk g
  · rename_i hn hk
    have hn : 0 < n := by omega
    have ha := a1 hn
    obtain ⟨q, q1, q2⟩ := back hn
    have e1 : ((a : Int) - 1).toNat = a - 1 := by omega
    rw [e1] at hk
    rcases stepP_kind q2 with ⟨g, _⟩ | ⟨_, _, _, g⟩
    · exact absurd g hk
    · refine ⟨(a - 1, n + 1), ⟨by show a - 1 ≤ e + 1; omega, by show walkP bs (t.take (a - 1)) 0 = some (k - 1 + (n + 1)); rw [q1]; congr 1; omega, fun j hj hje => above j hj hn hje⟩, by show a - 1 < a; omega, ⟨⟨[], [], rfl, rfl, ?_, ?_⟩⟩⟩
      · repeat' ((conv => whnf); first | with_reducible exact True.intro | exact vW | with_reducible refine And.intro ?_ ?_)
      · repeat' ((conv => whnf); first | with_reducible exact True.intro | exact vW | with_reducible refine And.intro ?_ ?_)
  · rename_i hn
    have hn : n = 0 := by omega
    subst hn
    have := h a ⟨?_, i2, i3⟩
    · exact (congrArg (fun z => K (AV.int IntKind.i64 z)) (by omega : (a : Int) = a - 1 + 1)) ▸ this
    · show a ≤ e
      rcases Nat.lt_or_ge e a with h5 | h5
      · have : a = e + 1 := by omega
        subst this
        rw [h4] at i2
        injection i2 with i2
        omega
      · exact h5
end Go.Proofs.Ytbbgojaloebknaa.Vc
