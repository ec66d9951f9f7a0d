/- Part ZB: what a term says, by the reference. -/
import Derived.Test.YtbbgojaloebknaaVcZA
namespace Go.Proofs.Ytbbgojaloebknaa.Vc
open Go.Proofs
set_option maxRecDepth 10000
set_option maxHeartbeats 4000000
section
variable {bs : List Int} {c : Int}
theorem walk_pos {l : List Mark} {m : Mark} {k : Nat} (h : walkP bs (l ++ [m]) 0 = some k) : 1 ≤ k := by
  rw [walkP_app] at h
  cases e : walkP bs l 0 with
  | none => rw [e] at h; cases h
  | some q =>
    rw [e] at h
    simp only [Option.bind_some, walkP] at h
    cases e2 : stepP bs m q with
    | none => rw [e2] at h; cases h
    | some j =>
      rw [e2] at h
      simp only [Option.bind_some, Option.some.injEq] at h
      subst h
      rcases stepP_kind e2 with ⟨_, h⟩ | ⟨_, _, _, h⟩ <;> omega
theorem walk_zero {l : List Mark} (h : walkP bs l 0 = some 0) : l = [] := by
  rcases List.eq_nil_or_concat l with rfl | ⟨l', m, rfl⟩
  · rfl
  · have := walk_pos (bs := bs) (by simpa using h)
    omega
/-- The last mark of a term. -/
theorem last_mark {t : List Mark} (h : walkP bs t 0 = some 1) : ∃ n m q, t.length = n + 1 ∧ t.getD n default = m ∧ t = t.take n ++ [m] ∧ walkP bs (t.take n) 0 = some q ∧ stepP bs m q = some 1 := by
  have hl : t ≠ [] := by rintro rfl; simp [walkP] at h
  have hpos : 0 < t.length := List.length_pos_iff.2 hl
  refine ⟨t.length - 1, t.getD (t.length - 1) default, ?_⟩
  obtain ⟨q, hq⟩ := walk_prefix h (t.length - 1)
  have h1 := take_succ' (l := t) (i := t.length - 1) default (by omega)
  rw [show t.length - 1 + 1 = t.length by omega, List.take_length] at h1
  refine ⟨q, by omega, rfl, h1, hq, ?_⟩
  have := walkP_take (i := t.length - 1) (by omega) hq
  rw [show t.length - 1 + 1 = t.length by omega, List.take_length] at this
  rw [← this]; exact h
theorem says_body {t : List Mark} {n : Nat} (h : walkP bs t 0 = some 1) (hn : t.length = n + 1) (hk : (t.getD n default).kind = 0) : says bs c t = cnt bs c (t.getD n default) := by
  obtain ⟨n', m, q, h1, h2, h3, h4, h5⟩ := last_mark h
  obtain rfl : n' = n := by omega
  rw [h2] at hk ⊢
  rcases stepP_kind h5 with ⟨_, hq⟩ | ⟨hq, _⟩
  · have : q = 0 := by omega
    subst this
    have := walk_zero h4
    rw [h3, this]
    simp [says, runS, stepS, hk]
  · exact absurd hk hq
theorem says_split {t : List Mark} {n s : Nat} (h : walkP bs t 0 = some 1) (hn : t.length = n + 1) (hk : (t.getD n default).kind ≠ 0) : walkP bs (t.take n) 0 = some 2 ∧ 1 ≤ n ∧
    (starts ⟨bs, t, n - 1, 2⟩ s → s < n ∧ 1 ≤ s ∧ walkP bs (t.take s) 0 = some 1 ∧ walkP bs ((t.take n).drop s) 0 = some 1 ∧
      says bs c t = (if (t.getD n default).kind = 2 then says bs c (t.take s) || says bs c ((t.take n).drop s) else says bs c (t.take s) && says bs c ((t.take n).drop s))) := by
  obtain ⟨n', m, q, h1, h2, h3, h4, h5⟩ := last_mark h
  obtain rfl : n' = n := by omega
  rw [h2] at hk ⊢
  rcases stepP_kind h5 with ⟨hq, _⟩ | ⟨_, _, hq2, hq⟩
  · exact absurd hq hk
  · have : q = 2 := by omega
    subst this
    have hn1 : 1 ≤ n' := by
      rcases Nat.eq_zero_or_pos n' with rfl | h0
      · simp [walkP] at h4
      · exact h0
    refine ⟨h4, hn1, fun hs => ?_⟩
    obtain ⟨s1, s2, s3⟩ := hs
    dsimp only at s1 s2 s3
    have hs1 : 1 ≤ s := by
      rcases Nat.eq_zero_or_pos s with rfl | h0
      · simp [walkP] at s2
      · exact h0
    have e1 : t.take n' = t.take s ++ (t.take n').drop s := by
      have := (List.take_append_drop s (t.take n')).symm
      rwa [List.take_take, Nat.min_eq_left (by omega)] at this
    have w2 : walkP bs ((t.take n').drop s) 1 = some 2 := by
      rw [e1, walkP_app, s2] at h4
      exact h4
    have w3 : walkP bs ((t.take n').drop s) 0 = some 1 := by
      refine walk_shift 1 _ 0 1 w2 fun j hj q hq => ?_
      rcases Nat.eq_zero_or_pos j with h0 | h0
      · exact .inl h0
      · right
        simp only [List.length_drop, List.length_take] at hj
        refine s3 (s + j) (by omega) (by omega) q ?_
        have : t.take (s + j) = t.take s ++ ((t.take n').drop s).take j := by
          rw [List.take_add, List.take_drop, List.take_drop, List.take_take, Nat.min_eq_left (by omega)]
        rw [this, walkP_app, s2]
        exact hq
    refine ⟨by omega, hs1, s2, w3, ?_⟩
    have f1 := runS_frame (bs := bs) (c := c) (t.take s) [] [] 1 s2
    have f2 := runS_frame (bs := bs) (c := c) ((t.take n').drop s) [] (runS bs c (t.take s) []) 1 w3
    obtain ⟨v1, hv1⟩ := List.length_eq_one_iff.1 f1.2
    obtain ⟨v2, hv2⟩ := List.length_eq_one_iff.1 f2.2
    have hr : runS bs c t [] = stepS bs c m [v2, v1] := by
      rw [h3, runS_app, e1, runS_app]
      have := f2.1
      rw [List.nil_append] at this
      rw [this, hv2, hv1]
      rfl
    unfold says
    rw [hr, hv1, hv2]
    unfold stepS
    rw [if_neg hk]
    simp only [List.headD_cons]
end
theorem take_ext {t : List Mark} {l s : Nat} (hs : s ≤ t.length) : s - l = ((t.take s).drop l).length ∧ ∀ i, i < s - l → encM (t.getD (l + i) default) = encM (((t.take s).drop l).getD i default) := by
  refine ⟨by simp [Nat.min_eq_left hs], fun i hi => ?_⟩
  congr 1
  simp only [List.getD_eq_getElem?_getD, List.getElem?_drop]
  rw [List.getElem?_take_of_lt (by omega)]
theorem take_ext0 {t : List Mark} {s : Nat} (hs : s ≤ t.length) : s - 0 = (t.take s).length ∧ ∀ i, i < s - 0 → encM (t.getD (0 + i) default) = encM ((t.take s).getD i default) := by
  have := take_ext (l := 0) hs
  rwa [List.drop_zero] at this
theorem fits_rec {P : Program} {Gl : List (Nat × Go.Obj)} {X : Type} {args : X → List AV} {pre : X → Prop} {post : X → (AV → Prop) → Prop} {f : FuncId} (μ : X → Nat) (h : ∀ k, Fits P Gl f (con args (fun x => μ x < k ∧ pre x) post)) : Fits P Gl f (con args pre post) :=
  ⟨(h 0).has, fun us K K' hk ⟨x, h1, h2, h3⟩ => by
    obtain ⟨y, g1, g2, g3⟩ := (h (μ x + 1)).mono us K K' hk ⟨x, h1, ⟨Nat.lt_succ_self _, h2.h⟩, h3⟩
    exact ⟨y, g1, ⟨g2.h.2⟩, g3⟩, fun us K ⟨x, h1, h2, h3⟩ => (h (μ x + 1)).ok us K ⟨x, h1, ⟨Nat.lt_succ_self _, h2.h⟩, h3⟩⟩

structure Sy where
  p : Int
  bs : List Int
  t : List Mark
  c : Int
def sayOk (x : Sy) : Prop := x.t.length < 4611686018427387904 ∧ walkP x.bs x.t 0 = some 1 ∧ (∀ b ∈ x.bs, 0 ≤ b ∧ b < 64) ∧ 0 ≤ x.c ∧ x.c < 64
def C36k (k : Nat) : List AV → (AV → Prop) → Prop := con (X := Sy) (fun x => [house x.p x.bs, slM x.t, .int .i64 x.c]) (fun x => x.t.length < k ∧ sayOk x) fun x K => K (.bool (says x.bs x.c x.t))
theorem F36k : ∀ k, FF 36 (C36k k) := by
  intro k
  induction k with
  | zero => exact fitE [] (by simp) Try.f36 ⟨rfl, by decide +kernel, by decide +kernel⟩ (fun _ _ _ hk h => hk _ h) fun x K h => absurd h.1 (Nat.not_lt_zero _)
  | succ k ih =>
    refine fitE [(36, C36k k), (48, C48), (56, C56)] (by simp only [List.mem_cons, List.not_mem_nil, or_false]; rintro _ (rfl | rfl | rfl) <;> first | exact ih | exact F48 | exact F56) Try.f36 ⟨rfl, by decide +kernel, by decide +kernel⟩ (fun _ _ _ hk h => hk _ h) ?_
    rintro ⟨p, bs, t, c⟩ K ⟨h0, h1, h2, h3, h4, h5⟩ h
    refine ⟨Nat.le_of_ble_eq_true rfl, ?_⟩
    dsimp only at h h0 h1 h2 h3 h4 h5 ⊢
    obtain ⟨n, m, q, g1, g2, g3, g4, g5⟩ := last_mark h2
    have hn : ((t.length : Int) - 1).toNat = n := by omega
    have hat : (t.getD ((t.length : Int) - 1).toNat default).kind = 0 → 0 ≤ (t.getD ((t.length : Int) - 1).toNat default).at_ ∧ (t.getD ((t.length : Int) - 1).toNat default).at_ < bs.length := by
      rw [hn, g2]
      intro hk
      unfold stepP at g5
      split at g5
      · omega
      · rw [if_neg (by omega)] at g5; cases g5
    repeat' ((conv => whnf); first | refine vA ?_ | with_reducible first | refine vS ?_ | refine vR ?_ | refine vB ?_ | refine br_nt ?_ | refine br_tt ?_ | refine br_ff ?_ | refine vP ?_ | refine vQ ?_ | refine vT ?_ | refine vF ?_ | refine br_and ?_ | refine br_or ?_ | refine br_d (fun _ => ?_) fun _ => ?_ | refine vM (fun _ => ?_) fun _ => ?_)
    · rename_i hk
      have hb := hat hk
      refine Dr.mk ⟨[0, 1, 2, 3, 4, 5, 6, 7, 8, 9, 10, 12, 13, 14, 15, 16, 11, 17, 18], by decide +kernel, ?_⟩
      repeat' ((conv => whnf); first | refine vA ?_ | with_reducible first | refine vS ?_ | refine vR ?_ | refine vB ?_ | refine br_nt ?_ | refine br_tt ?_ | refine br_ff ?_ | refine vP ?_ | refine vQ ?_ | refine vT ?_ | refine vF ?_ | refine br_and ?_ | refine br_or ?_ | refine br_d (fun _ => ?_) fun _ => ?_ | refine vM (fun _ => ?_) fun _ => ?_)
      have hb2 := h3 _ (getD_mem' (l := bs) (i := (t.getD ((t.length : Int) - 1).toNat default).at_.toNat) (d := 0) (by omega))
      have hb3 := band_lt hb2.1 hb2.2 h4 h5
      rw [band_comm] at hb3
      refine ⟨band c (bs.getD (t.getD ((t.length : Int) - 1).toNat default).at_.toNat 0), ?_, ⟨by unfold i64r; omega⟩, ?_⟩
      · repeat' ((conv => whnf); first | with_reducible exact True.intro | exact vW | with_reducible refine And.intro ?_ ?_)
      repeat' ((conv => whnf); first | refine vA ?_ | with_reducible first | refine vS ?_ | refine vR ?_ | refine vB ?_ | refine br_nt ?_ | refine br_tt ?_ | refine br_ff ?_ | refine vP ?_ | refine vQ ?_ | refine vT ?_ | refine vF ?_ | refine br_and ?_ | refine br_or ?_ | refine br_d (fun _ => ?_) fun _ => ?_ | refine vM (fun _ => ?_) fun _ => ?_)
      rw [says_body h2 g1 (by rw [← hn]; exact hk), ← hn] at h
      unfold cnt at h
      rw [band_comm] at h
      exact h
    rename_i hk
    rw [hn] at hk
    obtain ⟨k1, k2, _⟩ := says_split (c := c) (s := 0) h2 g1 hk
    refine ⟨⟨bs, t, n - 1, 2⟩, ?_, ⟨⟨by show n - 1 < t.length; omega, h1, (by decide : 1 ≤ 2), by show walkP bs (t.take (n - 1 + 1)) 0 = some 2; rw [show n - 1 + 1 = n by omega]; exact k1⟩⟩, ?_⟩
    · dsimp only
      repeat' ((conv => whnf); first | with_reducible exact True.intro | exact vW | with_reducible refine And.intro ?_ ?_)
    intro s hs
    obtain ⟨_, _, k3⟩ := says_split (c := c) (s := s) h2 g1 hk
    obtain ⟨s1, s2, s3, s4, s5⟩ := k3 hs
    rw [s5] at h
    have l1 : (t.take s).length = s := by rw [List.length_take]; omega
    have l2 : ((t.take n).drop s).length = n - s := by simp; omega
    have e2 : ((t.length : Int) - 1).toNat - s = ((t.take n).drop s).length ∧ ∀ i, i < ((t.length : Int) - 1).toNat - s → encM (t.getD (s + i) default) = encM (((t.take n).drop s).getD i default) := by
      rw [hn]
      exact take_ext (by omega)
    repeat' ((conv => whnf); first | refine vA ?_ | with_reducible first | refine vS ?_ | refine vR ?_ | refine vB ?_ | refine br_nt ?_ | refine br_tt ?_ | refine br_ff ?_ | refine vP ?_ | refine vQ ?_ | refine vT ?_ | refine vF ?_ | refine br_and ?_ | refine br_or ?_ | refine br_d (fun _ => ?_) fun _ => ?_ | refine vM (fun _ => ?_) fun _ => ?_)
    · rename_i hk2
      rw [hn] at hk2
      rw [if_pos hk2] at h
      refine Dr.mk ⟨[0, 1, 2, 3, 4, 5, 6, 7, 8, 9, 10, 11, 12, 13, 14, 15], by decide +kernel, ?_⟩
      repeat' ((conv => whnf); first | refine vA ?_ | with_reducible first | refine vS ?_ | refine vR ?_ | refine vB ?_ | refine br_nt ?_ | refine br_tt ?_ | refine br_ff ?_ | refine vP ?_ | refine vQ ?_ | refine vT ?_ | refine vF ?_ | refine br_and ?_ | refine br_or ?_ | refine br_d (fun _ => ?_) fun _ => ?_ | refine vM (fun _ => ?_) fun _ => ?_)
      refine ⟨⟨p, bs, t.take s, c⟩, ?_, ⟨by show (t.take s).length < k; rw [l1]; omega, by show (t.take s).length < _; rw [l1]; omega, s3, h3, h4, h5⟩, ?_⟩
      · repeat' ((conv => whnf); first | with_reducible exact True.intro | exact vW | with_reducible refine And.intro ?_ ?_)
        all_goals exact Chk.mk (take_ext0 (by omega))
      dsimp only
      repeat' ((conv => whnf); first | refine vA ?_ | with_reducible first | refine vS ?_ | refine vR ?_ | refine vB ?_ | refine br_nt ?_ | refine br_tt ?_ | refine br_ff ?_ | refine vP ?_ | refine vQ ?_ | refine vT ?_ | refine vF ?_ | refine br_and ?_ | refine br_or ?_ | refine br_d (fun _ => ?_) fun _ => ?_ | refine vM (fun _ => ?_) fun _ => ?_)
      · rename_i hv
        rw [hv, Bool.true_or] at h
        exact h
      rename_i hv
      rw [hv, Bool.false_or] at h
      refine ⟨⟨p, bs, (t.take n).drop s, c⟩, ?_, ⟨by show ((t.take n).drop s).length < k; rw [l2]; omega, by show ((t.take n).drop s).length < _; rw [l2]; omega, s4, h3, h4, h5⟩, ?_⟩
      · repeat' ((conv => whnf); first | with_reducible exact True.intro | exact vW | with_reducible refine And.intro ?_ ?_)
        all_goals exact Chk.mk e2
      dsimp only
      repeat' ((conv => whnf); first | refine vA ?_ | with_reducible first | refine vS ?_ | refine vR ?_ | refine vB ?_ | refine br_nt ?_ | refine br_tt ?_ | refine br_ff ?_ | refine vP ?_ | refine vQ ?_ | refine vT ?_ | refine vF ?_ | refine br_and ?_ | refine br_or ?_ | refine br_d (fun _ => ?_) fun _ => ?_ | refine vM (fun _ => ?_) fun _ => ?_)
      exact h
    · rename_i hk2
      rw [hn] at hk2
      rw [if_neg hk2] at h
      refine Dr.mk ⟨[0, 1, 2, 3, 4, 5, 6, 7, 8, 9, 10, 11, 12, 13, 14, 15], by decide +kernel, ?_⟩
      repeat' ((conv => whnf); first | refine vA ?_ | with_reducible first | refine vS ?_ | refine vR ?_ | refine vB ?_ | refine br_nt ?_ | refine br_tt ?_ | refine br_ff ?_ | refine vP ?_ | refine vQ ?_ | refine vT ?_ | refine vF ?_ | refine br_and ?_ | refine br_or ?_ | refine br_d (fun _ => ?_) fun _ => ?_ | refine vM (fun _ => ?_) fun _ => ?_)
      refine ⟨⟨p, bs, t.take s, c⟩, ?_, ⟨by show (t.take s).length < k; rw [l1]; omega, by show (t.take s).length < _; rw [l1]; omega, s3, h3, h4, h5⟩, ?_⟩
      · repeat' ((conv => whnf); first | with_reducible exact True.intro | exact vW | with_reducible refine And.intro ?_ ?_)
        all_goals exact Chk.mk (take_ext0 (by omega))
      dsimp only
      repeat' ((conv => whnf); first | refine vA ?_ | with_reducible first | refine vS ?_ | refine vR ?_ | refine vB ?_ | refine br_nt ?_ | refine br_tt ?_ | refine br_ff ?_ | refine vP ?_ | refine vQ ?_ | refine vT ?_ | refine vF ?_ | refine br_and ?_ | refine br_or ?_ | refine br_d (fun _ => ?_) fun _ => ?_ | refine vM (fun _ => ?_) fun _ => ?_)
      · rename_i hv
        rw [hv, Bool.true_and] at h
        refine ⟨⟨p, bs, (t.take n).drop s, c⟩, ?_, ⟨by show ((t.take n).drop s).length < k; rw [l2]; omega, by show ((t.take n).drop s).length < _; rw [l2]; omega, s4, h3, h4, h5⟩, ?_⟩
        · repeat' ((conv => whnf); first | with_reducible exact True.intro | exact vW | with_reducible refine And.intro ?_ ?_)
          all_goals exact Chk.mk e2
        dsimp only
        repeat' ((conv => whnf); first | refine vA ?_ | with_reducible first | refine vS ?_ | refine vR ?_ | refine vB ?_ | refine br_nt ?_ | refine br_tt ?_ | refine br_ff ?_ | refine vP ?_ | refine vQ ?_ | refine vT ?_ | refine vF ?_ | refine br_and ?_ | refine br_or ?_ | refine br_d (fun _ => ?_) fun _ => ?_ | refine vM (fun _ => ?_) fun _ => ?_)
        exact h
      rename_i hv
      rw [hv, Bool.false_and] at h
      exact h
def C36 : List AV → (AV → Prop) → Prop := con (X := Sy) (fun x => [house x.p x.bs, slM x.t, .int .i64 x.c]) sayOk fun x K => K (.bool (says x.bs x.c x.t))
theorem F36 : FF 36 C36 := fits_rec (fun x => x.t.length) F36k
end Go.Proofs.Ytbbgojaloebknaa.Vc
