/- Part ZE: pivots in an order, by the reference. -/
import Derived.Test.YtbbgojaloebknaaVcZD
namespace Go.Proofs.Ytbbgojaloebknaa.Vc
open Go.Proofs
set_option maxRecDepth 10000
set_option maxHeartbeats 4000000
def C11 := C15
theorem F11 : FF 11 C11 := by
  refine fitE [(33, C33), (35, C35), (36, C36)] (by simp only [List.mem_cons, List.not_mem_nil, or_false]; rintro _ (rfl | rfl | rfl) <;> first | exact F33 | exact F35 | exact F36) Try.f11 ⟨rfl, by decide +kernel, by decide +kernel⟩ (fun _ _ _ hk h => hk _ h) ?_
  rintro ⟨⟨p, bs⟩, t, l⟩ K ⟨hI, h5, h6⟩ h
  refine ⟨Nat.le_of_ble_eq_true rfl, ?_⟩
  dsimp only at h hI h5 h6 ⊢
  obtain ⟨h1, h2, h3, h4⟩ := hI
  repeat' ((conv => whnf); first | refine vA ?_ | with_reducible first | refine vS ?_ | refine vR ?_ | refine vB ?_ | refine br_nt ?_ | refine br_tt ?_ | refine br_ff ?_ | refine vP ?_ | refine vQ ?_ | refine vT ?_ | refine vF ?_ | refine br_and ?_ | refine br_or ?_ | refine br_d (fun _ => ?_) fun _ => ?_ | refine vM (fun _ => ?_) fun _ => ?_)
  refine ⟨(⟨p, bs⟩, t), ?_, ⟨⟨h1, h2, h3, h4⟩⟩, ?_⟩
  · repeat' ((conv => whnf); first | with_reducible exact True.intro | exact vW | with_reducible refine And.intro ?_ ?_)
  repeat' ((conv => whnf); first | refine vA ?_ | with_reducible first | refine vS ?_ | refine vR ?_ | refine vB ?_ | refine br_nt ?_ | refine br_tt ?_ | refine br_ff ?_ | refine vP ?_ | refine vQ ?_ | refine vT ?_ | refine vF ?_ | refine br_and ?_ | refine br_or ?_ | refine br_d (fun _ => ?_) fun _ => ?_ | refine vM (fun _ => ?_) fun _ => ?_)
  · rename_i hO hl
    have hp := hO.1.1
    have pp : people p := hp
    have hp6 : p ≤ 6 := hp.2
    have hp1 : 1 ≤ p := hp.1
    have hsy : ∀ c, 0 ≤ c → c < 64 → sayOk ⟨p, bs, t, c⟩ := fun c g1 g2 => by
      have := hO.2.1
      have pw2 := (pw_le pp).2
      exact ⟨by show t.length < 4611686018427387904; have : t.length ≤ 9 := this; omega, hO.2.2, fun b hb => by have g : crowd p b := (hO.1.2.2 b hb).1; have := g.2; omega, g1, g2⟩
    refine Lp.mk ⟨Nat × Int × Int, fun x => [(1, slM t), (2, slI l), (3, .ptr 0 0), (7, .int .i64 x.2.1), (8, .int .i64 x.2.2), (9, .int .i64 x.1)], fun _ => [.box [.int .i64 p, slI bs]],
      fun x => x.1 ≤ l.length ∧ seenP p (l.take x.1) 0 = some x.2.1 ∧ ((x.2.2 = -1 ∧ pivotR bs t l 0 = pivotR bs t (l.drop x.1) x.2.1) ∨ (0 ≤ x.2.2 ∧ pivotR bs t l 0 = x.2.2)), fun x => l.length - x.1, ⟨(0, 0, -1), ⟨Nat.zero_le _, rfl, .inl ⟨rfl, rfl⟩⟩, ⟨⟨[some 0], [], rfl, rfl, ?_, ?_⟩⟩⟩, ?_⟩
    · repeat' ((conv => whnf); first | with_reducible exact True.intro | exact vW | with_reducible refine And.intro ?_ ?_)
    · repeat' ((conv => whnf); first | with_reducible exact True.intro | exact vW | with_reducible refine And.intro ?_ ?_)
    rintro ⟨i, c, v⟩ ⟨i1, i2, i3⟩
    dsimp only at i1 i2 i3 ⊢
    have hc := seenP_lt hp.2 _ 0 c (by omega) (by omega) i2
    have bad : i < l.length → ¬ (0 ≤ l.getD i 0 ∧ l.getD i 0 < p ∧ has c (l.getD i 0) = false) → pivotIn ⟨p, bs⟩ t l = -1 := fun hi hn => by
      unfold pivotIn
      have := seenP_take hi i2
      rw [if_neg hn] at this
      rw [if_neg]
      intro q
      have q2 := q.2.2
      rw [seenP_none this] at q2
      cases q2
    have good : i < l.length → (0 ≤ l.getD i 0 ∧ l.getD i 0 < p ∧ has c (l.getD i 0) = false) → seenP p (l.take (i + 1)) 0 = some (add c (l.getD i 0)) := fun hi hn => by rw [seenP_take hi i2, if_pos hn]
    repeat' ((conv => whnf); first | refine vA ?_ | with_reducible first | refine vS ?_ | refine vR ?_ | refine vB ?_ | refine br_nt ?_ | refine br_tt ?_ | refine br_ff ?_ | refine vP ?_ | refine vQ ?_ | refine vT ?_ | refine vF ?_ | refine br_and ?_ | refine br_or ?_ | refine br_d (fun _ => ?_) fun _ => ?_ | refine vM (fun _ => ?_) fun _ => ?_)
    · refine Dr.mk ⟨[0, 1, 2, 3, 4, 5, 6, 7, 8, 9, 10, 11, 12, 13, 14, 15, 16, 17, 18], by decide +kernel, ?_⟩
      repeat' ((conv => whnf); first | refine vA ?_ | with_reducible first | refine vS ?_ | refine vR ?_ | refine vB ?_ | refine br_nt ?_ | refine br_tt ?_ | refine br_ff ?_ | refine vP ?_ | refine vQ ?_ | refine vT ?_ | refine vF ?_ | refine br_and ?_ | refine br_or ?_ | refine br_d (fun _ => ?_) fun _ => ?_ | refine vM (fun _ => ?_) fun _ => ?_)
      refine ⟨(l.getD (i : Int).toNat 0, 0, p - 1), ?_, ⟨trivial⟩, ?_⟩
      · repeat' ((conv => whnf); first | with_reducible exact True.intro | exact vW | with_reducible refine And.intro ?_ ?_)
      dsimp only
      repeat' ((conv => whnf); first | with_reducible refine Wr.ex (wshw (by omega) (by omega)) ?_ | refine vA ?_ | with_reducible first | refine vS ?_ | refine vR ?_ | refine vB ?_ | refine br_nt ?_ | refine br_tt ?_ | refine br_ff ?_ | refine vP ?_ | refine vQ ?_ | refine vT ?_ | refine vF ?_ | refine br_and ?_ | refine br_or ?_ | refine br_d (fun _ => ?_) fun _ => ?_ | refine vM (fun _ => ?_) fun _ => ?_)
      · rename_i g2 g
        replace g2 : 0 ≤ l.getD i 0 ∧ l.getD i 0 ≤ p - 1 := g2
        rw [bad (by omega) (fun q => by
          have e : has c (l.getD i 0) = true := decide_eq_true g
          rw [e] at q
          cases q.2.2)] at h
        exact h
      · rename_i g2 g gv
        replace g2 : 0 ≤ l.getD i 0 ∧ l.getD i 0 ≤ p - 1 := g2
        have e : has c (l.getD i 0) = false := decide_eq_false g
        have ga := add_lt hc.1 hc.2 g2.1 (by omega)
        have w3 := good (by omega) ⟨g2.1, by omega, e⟩
        have i4 : v = -1 ∧ pivotR bs t l 0 = pivotR bs t (l.drop i) c := by
          rcases i3 with i3 | i3
          · exact i3
          · omega
        obtain ⟨rfl, e3⟩ := i4
        rw [drop_cons 0 (by omega), pivotR] at e3
        refine ⟨⟨p, bs, t, add c (l.getD i 0)⟩, ?_, ⟨hsy _ ga.1 ga.2⟩, ?_⟩
        · repeat' ((conv => whnf); first | with_reducible exact True.intro | exact vW | with_reducible refine And.intro ?_ ?_)
        dsimp only
        repeat' ((conv => whnf); first | refine vA ?_ | with_reducible first | refine vS ?_ | refine vR ?_ | refine vB ?_ | refine br_nt ?_ | refine br_tt ?_ | refine br_ff ?_ | refine vP ?_ | refine vQ ?_ | refine vT ?_ | refine vF ?_ | refine br_and ?_ | refine br_or ?_ | refine br_d (fun _ => ?_) fun _ => ?_ | refine vM (fun _ => ?_) fun _ => ?_)
        · rename_i hv
          rw [if_pos hv] at e3
          refine ⟨(i + 1, add c (l.getD i 0), l.getD i 0), ⟨by show i + 1 ≤ l.length; omega, w3, .inr ⟨g2.1, e3⟩⟩, by show l.length - (i + 1) < l.length - i; omega, ⟨⟨[some 0], [], rfl, rfl, ?_, ?_⟩⟩⟩
          · repeat' ((conv => whnf); first | with_reducible exact True.intro | exact vW | with_reducible refine And.intro ?_ ?_)
          · repeat' ((conv => whnf); first | with_reducible exact True.intro | exact vW | with_reducible refine And.intro ?_ ?_)
        · rename_i hv
          rw [if_neg (by rw [hv]; exact Bool.false_ne_true)] at e3
          refine ⟨(i + 1, add c (l.getD i 0), -1), ⟨by show i + 1 ≤ l.length; omega, w3, .inl ⟨rfl, e3⟩⟩, by show l.length - (i + 1) < l.length - i; omega, ⟨⟨[some 0], [], rfl, rfl, ?_, ?_⟩⟩⟩
          · repeat' ((conv => whnf); first | with_reducible exact True.intro | exact vW | with_reducible refine And.intro ?_ ?_)
          · repeat' ((conv => whnf); first | with_reducible exact True.intro | exact vW | with_reducible refine And.intro ?_ ?_)
      · rename_i g2 g gv
        replace g2 : 0 ≤ l.getD i 0 ∧ l.getD i 0 ≤ p - 1 := g2
        have e : has c (l.getD i 0) = false := decide_eq_false g
        have w3 := good (by omega) ⟨g2.1, by omega, e⟩
        have i4 : 0 ≤ v ∧ pivotR bs t l 0 = v := by
          rcases i3 with i3 | i3
          · omega
          · exact i3
        refine ⟨(i + 1, add c (l.getD i 0), v), ⟨by show i + 1 ≤ l.length; omega, w3, .inr i4⟩, by show l.length - (i + 1) < l.length - i; omega, ⟨⟨[some 0], [], rfl, rfl, ?_, ?_⟩⟩⟩
        · repeat' ((conv => whnf); first | with_reducible exact True.intro | exact vW | with_reducible refine And.intro ?_ ?_)
        · repeat' ((conv => whnf); first | with_reducible exact True.intro | exact vW | with_reducible refine And.intro ?_ ?_)
      · rename_i g
        replace g : ¬ (0 ≤ l.getD i 0 ∧ l.getD i 0 ≤ p - 1) := g
        rw [bad (by omega) (fun q => g ⟨q.1, by omega⟩)] at h
        exact h
    have hlen : i = l.length := by omega
    have hsome : (seenP p l 0).isSome = true := by
      rw [hlen, List.take_length] at i2
      rw [i2]; rfl
    have hpv : pivotIn ⟨p, bs⟩ t l = pivotR bs t l 0 := if_pos ⟨hO, hl, hsome⟩
    rw [hpv] at h
    rcases i3 with ⟨rfl, i3⟩ | ⟨_, i3⟩
    · rw [i3, List.drop_eq_nil_of_le (by omega)] at h
      exact h
    · rw [i3] at h
      exact h
  · rename_i hO hl
    unfold pivotIn at h
    rw [if_neg (fun q => hl q.2.1)] at h
    exact h
  · rename_i hO
    unfold pivotIn at h
    rw [if_neg (fun q => hO q.1)] at h
    exact h
end Go.Proofs.Ytbbgojaloebknaa.Vc
