/- Part ZC: what a term says, by the program. -/
import Derived.Test.YtbbgojaloebknaaVcZB
namespace Go.Proofs.Ytbbgojaloebknaa.Vc
open Go.Proofs
set_option maxRecDepth 10000
set_option maxHeartbeats 4000000
def bl (s : List Bool) (j : Nat) : List AV := [.bool (s.reverse.getD j false)]
theorem push_len {bs : List Int} {c : Int} {m : Mark} {s : List Bool} (hk : m.kind = 0) : (stepS bs c m s).length = s.length + 1 := by
  unfold stepS
  rw [if_pos hk]
  rfl
theorem push_ext {bs : List Int} {c : Int} {m : Mark} {s : List Bool} {g : Nat → List AV} (hk : m.kind = 0) (hg : g 0 = [.bool (cnt bs c m)]) : (stepS bs c m s).length = s.length + 1 ∧ ∀ j, j < (stepS bs c m s).length → bl (stepS bs c m s) j = appF s.length (bl s) g j := by
  unfold stepS
  rw [if_pos hk]
  refine ⟨rfl, fun j hj => ?_⟩
  simp only [List.length_cons] at hj
  unfold appF bl
  rw [List.reverse_cons, List.getD_eq_getElem?_getD, List.getElem?_append]
  cases hb : Nat.blt j s.length with
  | true =>
    have : j < s.length := Nat.le_of_ble_eq_true hb
    rw [if_pos (by simpa using this), ← List.getD_eq_getElem?_getD]
    rfl
  | false =>
    have : ¬ j < s.length := fun h => by
      have : Nat.blt j s.length = true := Nat.ble_eq_true_of_le h
      rw [this] at hb; cases hb
    have : j = s.length := by omega
    subst this
    rw [if_neg (by simp)]
    simp [hg]
theorem rev_a {b a : Bool} {r : List Bool} : (b :: a :: r).reverse.getD r.length false = a := by
  simp [List.getD_eq_getElem?_getD]
theorem rev_b {b a : Bool} {r : List Bool} : (b :: a :: r).reverse.getD (r.length + 1) false = b := by
  simp [List.getD_eq_getElem?_getD]
theorem conn_len {bs : List Int} {c : Int} {m : Mark} {b a : Bool} {r : List Bool} {n : Nat} (hk : m.kind ≠ 0) (hn : n = r.length) : (stepS bs c m (b :: a :: r)).length = n + 1 := by
  subst hn
  unfold stepS
  rw [if_neg hk]
  rfl
theorem conn_ext {bs : List Int} {c : Int} {m : Mark} {b a v : Bool} {r : List Bool} {g : Nat → List AV} {n : Nat} (hk : m.kind ≠ 0) (hv : v = if m.kind = 2 then a || b else a && b) (hn : n = r.length) (hg : g 0 = [.bool v]) : (stepS bs c m (b :: a :: r)).length = n + 1 ∧ (∀ j, j < (stepS bs c m (b :: a :: r)).length → bl (stepS bs c m (b :: a :: r)) j = appF n (bl (b :: a :: r)) g j) := by
  subst hn
  unfold stepS
  rw [if_neg hk]
  dsimp only
  rw [← hv]
  refine ⟨rfl, fun j hj => ?_⟩
  simp only [List.length_cons] at hj
  unfold appF bl
  rw [List.reverse_cons, List.getD_eq_getElem?_getD, List.getElem?_append]
  cases hb : Nat.blt j r.length with
  | true =>
    have h1 : j < r.length := Nat.le_of_ble_eq_true hb
    rw [if_pos (by simpa using h1)]
    simp [List.getD_eq_getElem?_getD, List.getElem?_append, h1]
    try rw [if_pos (by omega)]
  | false =>
    have : ¬ j < r.length := fun h => by
      have : Nat.blt j r.length = true := Nat.ble_eq_true_of_le h
      rw [this] at hb; cases hb
    have : j = r.length := by omega
    subst this
    rw [if_neg (by simp)]
    simp [hg]
def C39 : List AV → (AV → Prop) → Prop := con (X := Sy) (fun x => [house x.p x.bs, slM x.t, .int .i64 x.c]) (fun x => sayOk x ∧ x.t.length ≤ 9) fun x K => K (.bool (says x.bs x.c x.t))
theorem F39 : FF 39 C39 := by
  refine fitE [(50, C50)] (by simp only [List.mem_cons, List.not_mem_nil, or_false]; rintro _ rfl <;> first | exact F50) Try.f39 ⟨rfl, by decide +kernel, by decide +kernel⟩ (fun _ _ _ hk h => hk _ h) ?_
  rintro ⟨p, bs, t, c⟩ K ⟨⟨h1, h2, h3, h4, h5⟩, h6⟩ h
  refine ⟨Nat.le_of_ble_eq_true rfl, ?_⟩
  dsimp only at h h1 h2 h3 h4 h5 h6 ⊢
  repeat' ((conv => whnf); first | refine vA ?_ | with_reducible first | refine vS ?_ | refine vR ?_ | refine vB ?_ | refine br_nt ?_ | refine br_tt ?_ | refine br_ff ?_ | refine vP ?_ | refine vQ ?_ | refine vT ?_ | refine vF ?_ | refine br_and ?_ | refine br_or ?_ | refine br_d (fun _ => ?_) fun _ => ?_ | refine vM (fun _ => ?_) fun _ => ?_)
  refine Lp.mk ⟨Nat, fun i => [(2, .int .i64 c), (3, .ptr 0 0), (6, .bool false), (7, .row 1 1 0 (runS bs c (t.take i) []).length), (14, slM t), (15, .int .i64 t.length), (16, .int .i64 i)],
    fun i => [.box [.int .i64 p, slI bs], .row 1 (runS bs c (t.take i) []).length (bl (runS bs c (t.take i) []))], fun i => i ≤ t.length, fun i => t.length - i, ⟨0, Nat.zero_le _, ⟨⟨[some 0, none], [], rfl, rfl, ?_, ?_⟩⟩⟩, ?_⟩
  · repeat' ((conv => whnf); first | with_reducible exact True.intro | exact vW | with_reducible refine And.intro ?_ ?_)
  · repeat' ((conv => whnf); first | with_reducible exact True.intro | exact vW | with_reducible refine And.intro ?_ ?_)
  intro i i1
  obtain ⟨q, hq⟩ := walk_prefix h2 i
  have hl := (runS_frame (bs := bs) (c := c) (t.take i) [] [] q hq).2
  have hql : q ≤ i := by
    have := walkP_le bs _ _ _ hq
    simp only [List.length_take] at this
    omega
  have hst : i < t.length → ∃ q', stepP bs (t.getD i default) q = some q' := fun hi => by
    obtain ⟨q', hq'⟩ := walk_prefix h2 (i + 1)
    rw [walkP_take hi hq] at hq'
    exact ⟨q', hq'⟩
  have hnx : i < t.length → runS bs c (t.take (i + 1)) [] = stepS bs c (t.getD i default) (runS bs c (t.take i) []) := fun hi => by
    rw [take_succ' default hi, runS_app]
    rfl
  have hend : ¬ i < t.length → runS bs c (t.take i) [] = runS bs c t [] := fun hi => by rw [List.take_of_length_le (by omega)]
  dsimp only
  generalize hs : runS bs c (t.take i) [] = s at *
  have hat : i < t.length → (t.getD (i : Int).toNat default).kind = 0 → 0 ≤ (t.getD (i : Int).toNat default).at_ ∧ (t.getD (i : Int).toNat default).at_ < bs.length := fun hi hk => by
    obtain ⟨q', e⟩ := hst hi
    replace hk : (t.getD i default).kind = 0 := hk
    show 0 ≤ (t.getD i default).at_ ∧ (t.getD i default).at_ < bs.length
    unfold stepP at e
    split at e
    · omega
    · rw [if_neg (by omega)] at e; cases e
  have h2s : i < t.length → ¬ (t.getD (i : Int).toNat default).kind = 0 → 2 ≤ s.length := fun hi hk => by
    obtain ⟨q', e⟩ := hst hi
    rcases stepP_kind e with ⟨g, _⟩ | ⟨_, _, g, _⟩
    · exact absurd g hk
    · omega
  repeat' ((conv => whnf); first | refine vA ?_ | with_reducible first | refine vS ?_ | refine vR ?_ | refine vB ?_ | refine br_nt ?_ | refine br_tt ?_ | refine br_ff ?_ | refine vP ?_ | refine vQ ?_ | refine vT ?_ | refine vF ?_ | refine br_and ?_ | refine br_or ?_ | refine br_d (fun _ => ?_) fun _ => ?_ | refine vM (fun _ => ?_) fun _ => ?_)
  · rename_i hi hk
    have hi : i < t.length := by omega
    have hb := hat hi hk
    refine Dr.mk ⟨[0, 1, 2, 3, 4, 5, 6, 7, 8, 10, 11, 9, 12, 13, 14, 15], by decide +kernel, ?_⟩
    repeat' ((conv => whnf); first | refine vA ?_ | with_reducible first | refine vS ?_ | refine vR ?_ | refine vB ?_ | refine br_nt ?_ | refine br_tt ?_ | refine br_ff ?_ | refine vP ?_ | refine vQ ?_ | refine vT ?_ | refine vF ?_ | refine br_and ?_ | refine br_or ?_ | refine br_d (fun _ => ?_) fun _ => ?_ | refine vM (fun _ => ?_) fun _ => ?_)
    have hb2 := h3 _ (getD_mem' (l := bs) (i := (t.getD (i : Int).toNat default).at_.toNat) (d := 0) (by omega))
    have hb3 := band_lt hb2.1 hb2.2 h4 h5
    refine ⟨band (bs.getD (t.getD (i : Int).toNat default).at_.toNat 0) c, ?_, ⟨hb3⟩, ?_⟩
    · repeat' ((conv => whnf); first | with_reducible exact True.intro | exact vW | with_reducible refine And.intro ?_ ?_)
    repeat' ((conv => whnf); first | refine vA ?_ | with_reducible first | refine vS ?_ | refine vR ?_ | refine vB ?_ | refine br_nt ?_ | refine br_tt ?_ | refine br_ff ?_ | refine vP ?_ | refine vQ ?_ | refine vT ?_ | refine vF ?_ | refine br_and ?_ | refine br_or ?_ | refine br_d (fun _ => ?_) fun _ => ?_ | refine vM (fun _ => ?_) fun _ => ?_)
    refine ⟨i + 1, by show i + 1 ≤ t.length; omega, by show t.length - (i + 1) < t.length - i; omega, ⟨⟨[some 0, some 4], [], rfl, rfl, ?_, ?_⟩⟩⟩
    · repeat' ((conv => whnf); first | with_reducible exact True.intro | exact vW | with_reducible refine And.intro ?_ ?_)
      (conv => whnf)
      refine Chk.mk ⟨rfl, ?_⟩
      rw [hnx hi]
      exact push_len hk
    · repeat' ((conv => whnf); first | with_reducible exact True.intro | exact vW | with_reducible refine And.intro ?_ ?_)
      (conv => whnf)
      refine Chk.mk ?_
      rw [hnx hi]
      exact push_ext hk rfl
  · rename_i hi hk
    have hi : i < t.length := by omega
    have hb := h2s hi hk
    replace hk : (t.getD i default).kind ≠ 0 := hk
    match s, hb, hnx with
    | b :: a :: r, hb, hnx =>
      have n2 : (((b :: a :: r).length : Int) - 2).toNat = r.length := by simp only [List.length_cons]; omega
      have n1 : (((b :: a :: r).length : Int) - 1).toNat = r.length + 1 := by simp only [List.length_cons]; omega
      have ea : (b :: a :: r).reverse.getD (0 + (((b :: a :: r).length : Int) - 2).toNat) false = a := by rw [n2, Nat.zero_add]; exact rev_a
      have eb : (b :: a :: r).reverse.getD (0 + (((b :: a :: r).length : Int) - 1).toNat) false = b := by rw [n1, Nat.zero_add]; exact rev_b
      refine Dr.mk ⟨[0, 1, 2, 3, 4, 5, 6, 7, 8, 9, 10, 11, 12, 13], by decide +kernel, ?_⟩
      repeat' ((conv => whnf); first | refine vA ?_ | with_reducible first | refine vS ?_ | refine vR ?_ | refine vB ?_ | refine br_nt ?_ | refine br_tt ?_ | refine br_ff ?_ | refine vP ?_ | refine vQ ?_ | refine vT ?_ | refine vF ?_ | refine br_and ?_ | refine br_or ?_ | refine br_d (fun _ => ?_) fun _ => ?_ | refine vM (fun _ => ?_) fun _ => ?_)
      all_goals
        rename_i g1 g2
        replace g1 := ea.symm.trans g1
      all_goals
        refine ⟨i + 1, by show i + 1 ≤ t.length; omega, by show t.length - (i + 1) < t.length - i; omega, ⟨⟨[some 0, some 4], [], rfl, rfl, ?_, ?_⟩⟩⟩
        · repeat' ((conv => whnf); first | with_reducible exact True.intro | exact vW | with_reducible refine And.intro ?_ ?_)
          all_goals
            (conv => whnf)
            refine Chk.mk ⟨rfl, ?_⟩
            rw [hnx hi]
            exact conn_len hk n2
        · repeat' ((conv => whnf); first | with_reducible exact True.intro | exact vW | with_reducible refine And.intro ?_ ?_)
          all_goals
            (conv => whnf)
            refine Chk.mk ?_
            rw [hnx hi]
            refine conn_ext hk ?_ n2 rfl
            first
              | (rw [if_pos (show (t.getD i default).kind = 2 from g2)]; first | (rw [g1]; rfl) | (refine eb.trans ?_; rw [g1]; rfl))
              | (rw [if_neg (show ¬ (t.getD i default).kind = 2 from g2)]; first | (rw [g1]; rfl) | (refine eb.trans ?_; rw [g1]; rfl))
  have e := hend (by omega)
  obtain ⟨v, hv⟩ := List.length_eq_one_iff.1 (runS_frame (bs := bs) (c := c) t [] [] 1 h2).2
  rw [hv] at e
  subst e
  have hsay : says bs c t = v := by unfold says; rw [hv]; rfl
  rw [hsay] at h
  repeat' ((conv => whnf); first | refine vA ?_ | with_reducible first | refine vS ?_ | refine vR ?_ | refine vB ?_ | refine br_nt ?_ | refine br_tt ?_ | refine br_ff ?_ | refine vP ?_ | refine vQ ?_ | refine vT ?_ | refine vF ?_ | refine br_and ?_ | refine br_or ?_ | refine br_d (fun _ => ?_) fun _ => ?_ | refine vM (fun _ => ?_) fun _ => ?_)
  exact h
end Go.Proofs.Ytbbgojaloebknaa.Vc
