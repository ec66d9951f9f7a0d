/- Part ZX: who is stronger. -/
import Derived.Test.YtbbgojaloebknaaVcZW
namespace Go.Proofs.Ytbbgojaloebknaa.Vc
open Go.Proofs
set_option maxRecDepth 10000
set_option maxHeartbeats 4000000
instance (bs : List Int) (t : List Mark) (a b n : Nat) : Decidable (stronger bs t a b n) := by unfold stronger; infer_instance
structure Qx where
  h : House
  t : List Mark
  a : Int
  b : Int
abbrev strongOk (x : Qx) : Prop := termOk x.h x.t ∧ (0 ≤ x.a ∧ x.a < x.h.p) ∧ (0 ≤ x.b ∧ x.b < x.h.p) ∧ stronger x.h.bs x.t x.a.toNat x.b.toNat (pw x.h.p).toNat
def C31 : List AV → (AV → Prop) → Prop := con (X := Qx) (fun x => [enH x.h, slM x.t, .int .i64 x.a, .int .i64 x.b]) (fun x => termI x.h x.t ∧ i64r x.a ∧ i64r x.b) fun x K => K (.bool (decide (strongOk x)))
theorem strong_succ {bs : List Int} {t : List Mark} {a b i : Nat} (h : stronger bs t a b i) (hi : has (i : Nat) (a : Nat) = false → has (i : Nat) (b : Nat) = false → says bs (add (i : Nat) (b : Nat)) t = true → says bs (add (i : Nat) (a : Nat)) t = true) : stronger bs t a b (i + 1) := fun c hc => by
  by_cases e : c = i
  · subst e; exact hi
  · exact h c (by omega)
theorem F31 : FF 31 C31 := by
  refine fitE [(38, C38), (39, C39)] (by simp only [List.mem_cons, List.not_mem_nil, or_false]; rintro _ (rfl | rfl) <;> first | exact F38 | exact F39) Try.f31 ⟨rfl, by decide +kernel, by decide +kernel⟩ (fun _ _ _ hk h => hk _ h) ?_
  rintro ⟨⟨p, bs⟩, t, a, b⟩ K ⟨hI, ha, hb⟩ h
  refine ⟨Nat.le_of_ble_eq_true rfl, ?_⟩
  dsimp only [enH] at h hI ha hb ⊢
  repeat' ((conv => whnf); first | refine vA ?_ | with_reducible first | refine vS ?_ | refine vR ?_ | refine vB ?_ | refine br_nt ?_ | refine br_tt ?_ | refine br_ff ?_ | refine vP ?_ | refine vQ ?_ | refine vT ?_ | refine vF ?_ | refine br_and ?_ | refine br_or ?_ | refine br_d (fun _ => ?_) fun _ => ?_ | refine vM (fun _ => ?_) fun _ => ?_)
  refine ⟨(⟨p, bs⟩, t), ?_, ⟨hI⟩, ?_⟩
  · repeat' ((conv => whnf); first | with_reducible exact True.intro | exact vW | with_reducible refine And.intro ?_ ?_)
  repeat' ((conv => whnf); first | refine vA ?_ | with_reducible first | refine vS ?_ | refine vR ?_ | refine vB ?_ | refine br_nt ?_ | refine br_tt ?_ | refine br_ff ?_ | refine vP ?_ | refine vQ ?_ | refine vT ?_ | refine vF ?_ | refine br_and ?_ | refine br_or ?_ | refine br_d (fun _ => ?_) fun _ => ?_ | refine vM (fun _ => ?_) fun _ => ?_)
  · rename_i g
    exact yesF h fun q => by have := q.2.1.1; dsimp only at this; omega
  · rename_i g
    exact yesF h fun q => by have := q.2.1.2; dsimp only at this; omega
  · rename_i g
    exact yesF h fun q => by have := q.2.2.1.1; dsimp only at this; omega
  · rename_i g
    exact yesF h fun q => by have := q.2.2.1.2; dsimp only at this; omega
  · rename_i hO a1 a2 b1 b2
    have hO' : termOk ⟨p, bs⟩ t := hO
    have pp : people p := hO'.1.1
    have hp := pp.2
    have pl := pw_le pp
    have hs := sayOk_of hO'
    have ht9 : t.length ≤ 9 := hO'.2.1
    repeat' ((conv => whnf); first | with_reducible refine Wr.ex (wsh pp) ?_ | refine vA ?_ | with_reducible first | refine vS ?_ | refine vR ?_ | refine vB ?_ | refine br_nt ?_ | refine br_tt ?_ | refine br_ff ?_ | refine vP ?_ | refine vQ ?_ | refine vT ?_ | refine vF ?_ | refine br_and ?_ | refine br_or ?_ | refine br_d (fun _ => ?_) fun _ => ?_ | refine vM (fun _ => ?_) fun _ => ?_)
    refine Lp.mk ⟨Nat, fun i => [(1, slM t), (2, .int .i64 a), (3, .int .i64 b), (4, .ptr 0 0), (36, .int .i64 (pw p)), (37, .int .i64 i)],
      fun i => [.box [.int .i64 p, slI bs]], fun i => i ≤ (pw p).toNat ∧ stronger bs t a.toNat b.toNat i, fun i => (pw p).toNat - i, ⟨0, ⟨Nat.zero_le _, fun c hc => absurd hc (Nat.not_lt_zero _)⟩, ⟨⟨[some 0], [], rfl, rfl, ?_, ?_⟩⟩⟩, ?_⟩
    · repeat' ((conv => whnf); first | with_reducible exact True.intro | exact vW | with_reducible refine And.intro ?_ ?_)
      all_goals exact Chk.mk (pw_sh pp).symm
    · repeat' ((conv => whnf); first | with_reducible exact True.intro | exact vW | with_reducible refine And.intro ?_ ?_)
    rintro i ⟨i1, i2⟩
    dsimp only
    have ea : ((a.toNat : Nat) : Int) = a := by omega
    have eb : ((b.toNat : Nat) : Int) = b := by omega
    repeat' ((conv => whnf); first | refine vA ?_ | with_reducible first | refine vS ?_ | refine vR ?_ | refine vB ?_ | refine br_nt ?_ | refine br_tt ?_ | refine br_ff ?_ | refine vP ?_ | refine vQ ?_ | refine vT ?_ | refine vF ?_ | refine br_and ?_ | refine br_or ?_ | refine br_d (fun _ => ?_) fun _ => ?_ | refine vM (fun _ => ?_) fun _ => ?_)
    · rename_i hi g
      have e := (has_and (by omega) (by omega) (by omega) (by omega)).1 g
      have e' : has (i : Nat) a = true := decide_eq_true e
      refine ⟨i + 1, ⟨by show i + 1 ≤ (pw p).toNat; omega, strong_succ i2 fun q => by rw [ea, e'] at q; cases q⟩, by show (pw p).toNat - (i + 1) < (pw p).toNat - i; omega, ⟨⟨[some 0], [], rfl, rfl, ?_, ?_⟩⟩⟩
      · repeat' ((conv => whnf); first | with_reducible exact True.intro | exact vW | with_reducible refine And.intro ?_ ?_)
      · repeat' ((conv => whnf); first | with_reducible exact True.intro | exact vW | with_reducible refine And.intro ?_ ?_)
    · rename_i hi _ g
      have e := (has_and (by omega) (by omega) (by omega) (by omega)).1 g
      have e' : has (i : Nat) b = true := decide_eq_true e
      refine ⟨i + 1, ⟨by show i + 1 ≤ (pw p).toNat; omega, strong_succ i2 fun _ q => by rw [eb, e'] at q; cases q⟩, by show (pw p).toNat - (i + 1) < (pw p).toNat - i; omega, ⟨⟨[some 0], [], rfl, rfl, ?_, ?_⟩⟩⟩
      · repeat' ((conv => whnf); first | with_reducible exact True.intro | exact vW | with_reducible refine And.intro ?_ ?_)
      · repeat' ((conv => whnf); first | with_reducible exact True.intro | exact vW | with_reducible refine And.intro ?_ ?_)
    · rename_i hi g1 g2
      have e1 : has (i : Nat) a = false := decide_eq_false fun q => g1 ((has_and (by omega) (by omega) (by omega) (by omega)).2 q)
      have e2 : has (i : Nat) b = false := decide_eq_false fun q => g2 ((has_and (by omega) (by omega) (by omega) (by omega)).2 q)
      have ab := add_lt (c := i) (w := b) (by omega) (by omega) (by omega) (by omega)
      have aa := add_lt (c := i) (w := a) (by omega) (by omega) (by omega) (by omega)
      refine Dr.mk ⟨[0, 1, 2, 3, 4, 5, 6, 7, 8, 9, 10, 11, 12, 13, 14, 15, 16], by decide +kernel, ?_⟩
      repeat' ((conv => whnf); first | with_reducible refine Wr.ex (wshw (by omega) (by omega)) ?_ | refine vA ?_ | with_reducible first | refine vS ?_ | refine vR ?_ | refine vB ?_ | refine br_nt ?_ | refine br_tt ?_ | refine br_ff ?_ | refine vP ?_ | refine vQ ?_ | refine vT ?_ | refine vF ?_ | refine br_and ?_ | refine br_or ?_ | refine br_d (fun _ => ?_) fun _ => ?_ | refine vM (fun _ => ?_) fun _ => ?_)
      refine ⟨⟨p, bs, t, add i b⟩, ?_, ⟨hs _ ab.1 ab.2, ht9⟩, ?_⟩
      · repeat' ((conv => whnf); first | with_reducible exact True.intro | exact vW | with_reducible refine And.intro ?_ ?_)
      dsimp only
      repeat' ((conv => whnf); first | with_reducible refine Wr.ex (wshw (by omega) (by omega)) ?_ | refine vA ?_ | with_reducible first | refine vS ?_ | refine vR ?_ | refine vB ?_ | refine br_nt ?_ | refine br_tt ?_ | refine br_ff ?_ | refine vP ?_ | refine vQ ?_ | refine vT ?_ | refine vF ?_ | refine br_and ?_ | refine br_or ?_ | refine br_d (fun _ => ?_) fun _ => ?_ | refine vM (fun _ => ?_) fun _ => ?_)
      · rename_i v1
        refine ⟨⟨p, bs, t, add i a⟩, ?_, ⟨hs _ aa.1 aa.2, ht9⟩, ?_⟩
        · repeat' ((conv => whnf); first | with_reducible exact True.intro | exact vW | with_reducible refine And.intro ?_ ?_)
        dsimp only
        repeat' ((conv => whnf); first | refine vA ?_ | with_reducible first | refine vS ?_ | refine vR ?_ | refine vB ?_ | refine br_nt ?_ | refine br_tt ?_ | refine br_ff ?_ | refine vP ?_ | refine vQ ?_ | refine vT ?_ | refine vF ?_ | refine br_and ?_ | refine br_or ?_ | refine br_d (fun _ => ?_) fun _ => ?_ | refine vM (fun _ => ?_) fun _ => ?_)
        · rename_i v2
          refine ⟨i + 1, ⟨by show i + 1 ≤ (pw p).toNat; omega, strong_succ i2 fun _ _ _ => by rw [ea]; exact v2⟩, by show (pw p).toNat - (i + 1) < (pw p).toNat - i; omega, ⟨⟨[some 0], [], rfl, rfl, ?_, ?_⟩⟩⟩
          · repeat' ((conv => whnf); first | with_reducible exact True.intro | exact vW | with_reducible refine And.intro ?_ ?_)
          · repeat' ((conv => whnf); first | with_reducible exact True.intro | exact vW | with_reducible refine And.intro ?_ ?_)
        · rename_i v2
          refine yesF h fun q => ?_
          have := q.2.2.2 i (by show i < (pw p).toNat; omega) (by rw [ea]; exact e1) (by rw [eb]; exact e2) (by rw [eb]; exact v1)
          dsimp only at this
          rw [ea, v2] at this
          cases this
      · rename_i v1
        refine ⟨i + 1, ⟨by show i + 1 ≤ (pw p).toNat; omega, strong_succ i2 fun _ _ q => by rw [eb, v1] at q; cases q⟩, by show (pw p).toNat - (i + 1) < (pw p).toNat - i; omega, ⟨⟨[some 0], [], rfl, rfl, ?_, ?_⟩⟩⟩
        · repeat' ((conv => whnf); first | with_reducible exact True.intro | exact vW | with_reducible refine And.intro ?_ ?_)
        · repeat' ((conv => whnf); first | with_reducible exact True.intro | exact vW | with_reducible refine And.intro ?_ ?_)
    · exact yesT h ⟨hO', ⟨by show 0 ≤ a; omega, by show a < p; omega⟩, ⟨by show 0 ≤ b; omega, by show b < p; omega⟩, by show stronger bs t a.toNat b.toNat (pw p).toNat; rw [show (pw p).toNat = i by omega]; exact i2⟩
  · rename_i hO
    exact yesF h fun q => hO q.1
def C32 := C31
theorem F32 : FF 32 C32 := by
  refine fitE [(33, C33), (35, C35), (36, C36)] (by simp only [List.mem_cons, List.not_mem_nil, or_false]; rintro _ (rfl | rfl | rfl) <;> first | exact F33 | exact F35 | exact F36) Try.f32 ⟨rfl, by decide +kernel, by decide +kernel⟩ (fun _ _ _ hk h => hk _ h) ?_
  rintro ⟨⟨p, bs⟩, t, a, b⟩ K ⟨hI, ha, hb⟩ h
  refine ⟨Nat.le_of_ble_eq_true rfl, ?_⟩
  dsimp only [enH] at h hI ha hb ⊢
  repeat' ((conv => whnf); first | refine vA ?_ | with_reducible first | refine vS ?_ | refine vR ?_ | refine vB ?_ | refine br_nt ?_ | refine br_tt ?_ | refine br_ff ?_ | refine vP ?_ | refine vQ ?_ | refine vT ?_ | refine vF ?_ | refine br_and ?_ | refine br_or ?_ | refine br_d (fun _ => ?_) fun _ => ?_ | refine vM (fun _ => ?_) fun _ => ?_)
  refine ⟨(⟨p, bs⟩, t), ?_, ⟨hI⟩, ?_⟩
  · repeat' ((conv => whnf); first | with_reducible exact True.intro | exact vW | with_reducible refine And.intro ?_ ?_)
  repeat' ((conv => whnf); first | refine vA ?_ | with_reducible first | refine vS ?_ | refine vR ?_ | refine vB ?_ | refine br_nt ?_ | refine br_tt ?_ | refine br_ff ?_ | refine vP ?_ | refine vQ ?_ | refine vT ?_ | refine vF ?_ | refine br_and ?_ | refine br_or ?_ | refine br_d (fun _ => ?_) fun _ => ?_ | refine vM (fun _ => ?_) fun _ => ?_)
  · rename_i hO
    have hO' : termOk ⟨p, bs⟩ t := hO
    have pp : people p := hO'.1.1
    have hp := pp.2
    have hp1 := pp.1
    have pl := pw_le pp
    have hs := sayOk_of hO'
    have ht9 : t.length ≤ 9 := hO'.2.1
    repeat' ((conv => whnf); first | refine vA ?_ | with_reducible first | refine vS ?_ | refine vR ?_ | refine vB ?_ | refine br_nt ?_ | refine br_tt ?_ | refine br_ff ?_ | refine vP ?_ | refine vQ ?_ | refine vT ?_ | refine vF ?_ | refine br_and ?_ | refine br_or ?_ | refine br_d (fun _ => ?_) fun _ => ?_ | refine vM (fun _ => ?_) fun _ => ?_)
    refine ⟨(a, 0, p - 1), ?_, ⟨trivial⟩, ?_⟩
    · repeat' ((conv => whnf); first | with_reducible exact True.intro | exact vW | with_reducible refine And.intro ?_ ?_)
    repeat' ((conv => whnf); first | refine vA ?_ | with_reducible first | refine vS ?_ | refine vR ?_ | refine vB ?_ | refine br_nt ?_ | refine br_tt ?_ | refine br_ff ?_ | refine vP ?_ | refine vQ ?_ | refine vT ?_ | refine vF ?_ | refine br_and ?_ | refine br_or ?_ | refine br_d (fun _ => ?_) fun _ => ?_ | refine vM (fun _ => ?_) fun _ => ?_)
    · rename_i ga
      replace ga : 0 ≤ a ∧ a ≤ p - 1 := ga
      refine ⟨(b, 0, p - 1), ?_, ⟨trivial⟩, ?_⟩
      · repeat' ((conv => whnf); first | with_reducible exact True.intro | exact vW | with_reducible refine And.intro ?_ ?_)
      repeat' ((conv => whnf); first | refine vA ?_ | with_reducible first | refine vS ?_ | refine vR ?_ | refine vB ?_ | refine br_nt ?_ | refine br_tt ?_ | refine br_ff ?_ | refine vP ?_ | refine vQ ?_ | refine vT ?_ | refine vF ?_ | refine br_and ?_ | refine br_or ?_ | refine br_d (fun _ => ?_) fun _ => ?_ | refine vM (fun _ => ?_) fun _ => ?_)
      · rename_i gb
        replace gb : 0 ≤ b ∧ b ≤ p - 1 := gb
        refine Lp.mk ⟨Nat, fun i => [(1, slM t), (2, .int .i64 a), (3, .int .i64 b), (4, .ptr 0 0), (9, .int .i64 i)],
          fun i => [.box [.int .i64 p, slI bs]], fun i => i ≤ (pw p).toNat ∧ stronger bs t a.toNat b.toNat i, fun i => (pw p).toNat - i, ⟨0, ⟨Nat.zero_le _, fun c hc => absurd hc (Nat.not_lt_zero _)⟩, ⟨⟨[some 0], [], rfl, rfl, ?_, ?_⟩⟩⟩, ?_⟩
        · repeat' ((conv => whnf); first | with_reducible exact True.intro | exact vW | with_reducible refine And.intro ?_ ?_)
        · repeat' ((conv => whnf); first | with_reducible exact True.intro | exact vW | with_reducible refine And.intro ?_ ?_)
        rintro i ⟨i1, i2⟩
        dsimp only
        have ea : ((a.toNat : Nat) : Int) = a := by omega
        have eb : ((b.toNat : Nat) : Int) = b := by omega
        repeat' ((conv => whnf); first | with_reducible refine Wr.ex (wsh pp) ?_ | refine vA ?_ | with_reducible first | refine vS ?_ | refine vR ?_ | refine vB ?_ | refine br_nt ?_ | refine br_tt ?_ | refine br_ff ?_ | refine vP ?_ | refine vQ ?_ | refine vT ?_ | refine vF ?_ | refine br_and ?_ | refine br_or ?_ | refine br_d (fun _ => ?_) fun _ => ?_ | refine vM (fun _ => ?_) fun _ => ?_)
        · rename_i hi
          rw [pw_sh pp] at hi
          have ab := add_lt (c := i) (w := b) (by omega) (by omega) (by omega) (by omega)
          have aa := add_lt (c := i) (w := a) (by omega) (by omega) (by omega) (by omega)
          refine Dr.mk ⟨[0, 1, 2, 3, 4, 5, 6, 7, 8, 9, 10, 11, 12, 13, 14, 15, 16, 17, 18, 19, 20, 21, 22, 23, 24, 25, 26, 27, 28, 29, 30], by decide +kernel, ?_⟩
          repeat' ((conv => whnf); first | with_reducible refine Wr.ex (wshw (by omega) (by omega)) ?_ | refine vA ?_ | with_reducible first | refine vS ?_ | refine vR ?_ | refine vB ?_ | refine br_nt ?_ | refine br_tt ?_ | refine br_ff ?_ | refine vP ?_ | refine vQ ?_ | refine vT ?_ | refine vF ?_ | refine br_and ?_ | refine br_or ?_ | refine br_d (fun _ => ?_) fun _ => ?_ | refine vM (fun _ => ?_) fun _ => ?_)
          · rename_i g1 g2
            have e1 := (tmod_has (c := i) (w := a) (by omega) (by omega) (by omega) (by omega)).1 g1
            have e2 := (tmod_has (c := i) (w := b) (by omega) (by omega) (by omega) (by omega)).1 g2
            refine ⟨⟨p, bs, t, add i b⟩, ?_, ⟨hs _ ab.1 ab.2⟩, ?_⟩
            · repeat' ((conv => whnf); first | with_reducible exact True.intro | exact vW | with_reducible refine And.intro ?_ ?_)
            dsimp only
            repeat' ((conv => whnf); first | with_reducible refine Wr.ex (wshw (by omega) (by omega)) ?_ | refine vA ?_ | with_reducible first | refine vS ?_ | refine vR ?_ | refine vB ?_ | refine br_nt ?_ | refine br_tt ?_ | refine br_ff ?_ | refine vP ?_ | refine vQ ?_ | refine vT ?_ | refine vF ?_ | refine br_and ?_ | refine br_or ?_ | refine br_d (fun _ => ?_) fun _ => ?_ | refine vM (fun _ => ?_) fun _ => ?_)
            · rename_i v1
              refine ⟨⟨p, bs, t, add i a⟩, ?_, ⟨hs _ aa.1 aa.2⟩, ?_⟩
              · repeat' ((conv => whnf); first | with_reducible exact True.intro | exact vW | with_reducible refine And.intro ?_ ?_)
              dsimp only
              repeat' ((conv => whnf); first | refine vA ?_ | with_reducible first | refine vS ?_ | refine vR ?_ | refine vB ?_ | refine br_nt ?_ | refine br_tt ?_ | refine br_ff ?_ | refine vP ?_ | refine vQ ?_ | refine vT ?_ | refine vF ?_ | refine br_and ?_ | refine br_or ?_ | refine br_d (fun _ => ?_) fun _ => ?_ | refine vM (fun _ => ?_) fun _ => ?_)
              · rename_i v2
                refine ⟨i + 1, ⟨by show i + 1 ≤ (pw p).toNat; omega, strong_succ i2 fun _ _ _ => by rw [ea]; exact v2⟩, by show (pw p).toNat - (i + 1) < (pw p).toNat - i; omega, ⟨⟨[some 0], [], rfl, rfl, ?_, ?_⟩⟩⟩
                · repeat' ((conv => whnf); first | with_reducible exact True.intro | exact vW | with_reducible refine And.intro ?_ ?_)
                · repeat' ((conv => whnf); first | with_reducible exact True.intro | exact vW | with_reducible refine And.intro ?_ ?_)
              · rename_i v2
                refine yesF h fun q => ?_
                have := q.2.2.2 i (by show i < (pw p).toNat; omega) (by rw [ea]; exact e1) (by rw [eb]; exact e2) (by rw [eb]; exact v1)
                dsimp only at this
                rw [ea, v2] at this
                cases this
            · rename_i v1
              refine ⟨i + 1, ⟨by show i + 1 ≤ (pw p).toNat; omega, strong_succ i2 fun _ _ q => by rw [eb, v1] at q; cases q⟩, by show (pw p).toNat - (i + 1) < (pw p).toNat - i; omega, ⟨⟨[some 0], [], rfl, rfl, ?_, ?_⟩⟩⟩
              · repeat' ((conv => whnf); first | with_reducible exact True.intro | exact vW | with_reducible refine And.intro ?_ ?_)
              · repeat' ((conv => whnf); first | with_reducible exact True.intro | exact vW | with_reducible refine And.intro ?_ ?_)
          · rename_i g1 g2
            refine ⟨i + 1, ⟨by show i + 1 ≤ (pw p).toNat; omega, strong_succ i2 fun _ q => by rw [eb] at q; exact absurd ((tmod_has (by omega) (by omega) (by omega) (by omega)).2 q) g2⟩, by show (pw p).toNat - (i + 1) < (pw p).toNat - i; omega, ⟨⟨[some 0], [], rfl, rfl, ?_, ?_⟩⟩⟩
            · repeat' ((conv => whnf); first | with_reducible exact True.intro | exact vW | with_reducible refine And.intro ?_ ?_)
            · repeat' ((conv => whnf); first | with_reducible exact True.intro | exact vW | with_reducible refine And.intro ?_ ?_)
          · rename_i g1
            refine ⟨i + 1, ⟨by show i + 1 ≤ (pw p).toNat; omega, strong_succ i2 fun q => by rw [ea] at q; exact absurd ((tmod_has (by omega) (by omega) (by omega) (by omega)).2 q) g1⟩, by show (pw p).toNat - (i + 1) < (pw p).toNat - i; omega, ⟨⟨[some 0], [], rfl, rfl, ?_, ?_⟩⟩⟩
            · repeat' ((conv => whnf); first | with_reducible exact True.intro | exact vW | with_reducible refine And.intro ?_ ?_)
            · repeat' ((conv => whnf); first | with_reducible exact True.intro | exact vW | with_reducible refine And.intro ?_ ?_)
        · rename_i hi
          rw [pw_sh pp] at hi
          exact yesT h ⟨hO', ⟨by show 0 ≤ a; omega, by show a < p; omega⟩, ⟨by show 0 ≤ b; omega, by show b < p; omega⟩, by show stronger bs t a.toNat b.toNat (pw p).toNat; rw [show (pw p).toNat = i by omega]; exact i2⟩
      · rename_i gb
        replace gb : ¬ (0 ≤ b ∧ b ≤ p - 1) := gb
        exact yesF h fun q => gb ⟨q.2.2.1.1, by have : b < p := q.2.2.1.2; omega⟩
    · rename_i ga
      replace ga : ¬ (0 ≤ a ∧ a ≤ p - 1) := ga
      exact yesF h fun q => ga ⟨q.2.1.1, by have : a < p := q.2.1.2; omega⟩
  · rename_i hO
    exact yesF h fun q => hO q.1
end Go.Proofs.Ytbbgojaloebknaa.Vc
