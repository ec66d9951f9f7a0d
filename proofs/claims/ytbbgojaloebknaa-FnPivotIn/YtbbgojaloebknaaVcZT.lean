/- Part ZT: duals, plain. -/
import Derived.Test.YtbbgojaloebknaaVcZL
namespace Go.Proofs.Ytbbgojaloebknaa.Vc
set_option maxRecDepth 10000
set_option maxHeartbeats 4000000
/-- Of up to six people. -/
def pop (m : Nat) : Nat := m % 2 + m / 2 % 2 + m / 4 % 2 + m / 8 % 2 + m / 16 % 2 + m / 32 % 2
theorem heads_pop : ∀ m, m < 64 → heads m = pop m := by decide +kernel
theorem pop_dual : ∀ p, p < 7 → ∀ b, b < 2 ^ p → ∀ c, c < 2 ^ p → pop (band (b : Nat) (c : Nat)).toNat + pop (band (b : Nat) ((2 ^ p - 1 - c : Nat) : Int)).toNat = pop b := by decide +kernel
theorem pop_mono : ∀ b, b < 64 → ∀ c, c < 64 → ∀ w, w < 6 → pop (band (b : Nat) (c : Nat)).toNat ≤ pop (band (b : Nat) (add (c : Nat) (w : Nat))).toNat := by decide +kernel
theorem pop_none : ∀ b, b < 64 → pop (band (b : Nat) 0).toNat = 0 := by decide +kernel
theorem pop_full : ∀ p, p < 7 → ∀ b, b < 2 ^ p → band (b : Nat) ((2 ^ p - 1 : Nat) : Int) = b := by decide +kernel
def full (p : Int) : Int := pw p - 1
theorem pw_nat {p : Int} (h : people p) : pw p = ((2 ^ p.toNat : Nat) : Int) := by
  rcases people_cases h with rfl | rfl | rfl | rfl | rfl | rfl <;> rfl
def dualM (bs : List Int) (m : Mark) : Mark := if m.kind = 0 then ⟨0, m.at_, heads (bs.getD m.at_.toNat 0).toNat + 1 - m.need⟩ else if m.kind = 1 then ⟨2, m.at_, m.need⟩ else ⟨1, m.at_, m.need⟩
def dualT (bs : List Int) (t : List Mark) : List Mark := t.map (dualM bs)
theorem stepP_dual {bs : List Int} {m : Mark} {k j : Nat} (h : stepP bs m k = some j) : stepP bs (dualM bs m) k = some j := by
  obtain ⟨kd, a, n⟩ := m
  unfold stepP dualM at *
  dsimp only at h ⊢
  split at h
  · rename_i g
    injection h with h
    rw [if_pos g.1]
    dsimp only
    rw [if_pos (by omega), h]
  · rename_i g
    split at h
    · rename_i g2
      injection h with h
      rw [if_neg (show ¬ kd = 0 by omega)]
      by_cases hk : kd = 1
      · rw [if_pos hk]; dsimp only; rw [if_neg (by omega), if_pos (by omega), h]
      · rw [if_neg hk]; dsimp only; rw [if_neg (by omega), if_pos (by omega), h]
    · cases h
theorem walkP_dual {bs : List Int} : ∀ (t : List Mark) (k j : Nat), walkP bs t k = some j → walkP bs (dualT bs t) k = some j
  | [], k, j, h => h
  | m :: t, k, j, h => by
    simp only [walkP] at h
    cases e : stepP bs m k with
    | none => rw [e] at h; cases h
    | some i =>
      rw [e] at h
      show walkP bs (dualM bs m :: dualT bs t) k = some j
      simp only [walkP]
      rw [stepP_dual e]
      exact walkP_dual t i j h
theorem termOk_dual {p : Int} {bs : List Int} {t : List Mark} (h : termOk ⟨p, bs⟩ t) : termOk ⟨p, bs⟩ (dualT bs t) :=
  ⟨h.1, by show (dualT bs t).length ≤ 9; rw [dualT, List.length_map]; exact h.2.1, walkP_dual t 0 1 h.2.2⟩
/-- Every mark of a body stands for one. -/
def goodM (bs : List Int) (m : Mark) : Prop := (m.kind = 0 ∧ 0 ≤ m.at_ ∧ m.at_ < bs.length ∧ 1 ≤ m.need ∧ m.need ≤ heads (bs.getD m.at_.toNat 0).toNat) ∨ m.kind = 1 ∨ m.kind = 2
theorem walk_good {bs : List Int} : ∀ (t : List Mark) (k j : Nat), walkP bs t k = some j → ∀ m ∈ t, goodM bs m
  | [], _, _, _, m, hm => by cases hm
  | x :: t, k, j, h, m, hm => by
    simp only [walkP] at h
    cases e : stepP bs x k with
    | none => rw [e] at h; cases h
    | some i =>
      rw [e] at h
      rcases List.mem_cons.1 hm with rfl | hm
      · unfold stepP at e
        split at e
        · rename_i g; exact .inl g
        · split at e
          · rename_i g; exact .inr g.1
          · cases e
      · exact walk_good t i j h m hm
section
variable {p : Int} {bs : List Int}
theorem body_ok (hb : ∀ b ∈ bs, crowd p b ∧ b ≠ 0) {m : Mark} (h1 : 0 ≤ m.at_) (h2 : m.at_ < bs.length) : crowd p (bs.getD m.at_.toNat 0) := (hb _ (getD_mem' (by omega))).1
theorem cnt_dual (hb : ∀ b ∈ bs, crowd p b ∧ b ≠ 0) {c : Int} (hp : people p) (h1 : 0 ≤ c) (h2 : c < pw p) {m : Mark} (hm : goodM bs m) (hk : m.kind = 0) : cnt bs c (dualM bs m) = !cnt bs (full p - c) m := by
  rcases hm with ⟨_, g1, g2, g3, g4⟩ | g | g <;> try omega
  obtain ⟨_, k1, k2⟩ := body_ok hb g1 g2
  generalize hB : bs.getD m.at_.toNat 0 = B at g4 k1 k2
  have pn := pw_nat hp
  have pl := pw_le hp
  have hp6 : p.toNat < 7 := by have := hp.2; omega
  have e := pop_dual p.toNat hp6 B.toNat (by omega) c.toNat (by omega)
  have e2 : ((2 ^ p.toNat - 1 - c.toNat : Nat) : Int) = full p - c := by unfold full; omega
  rw [e2, Int.toNat_of_nonneg k1, Int.toNat_of_nonneg h1] at e
  have b1 := band_lt k1 (by omega) h1 (by omega)
  have b2 := band_lt (a := B) (b := full p - c) k1 (by omega) (by unfold full; omega) (by unfold full; omega)
  rw [heads_pop _ (by omega)] at g4
  unfold cnt dualM
  rw [if_pos hk]
  dsimp only
  rw [hB, heads_pop _ (by omega), heads_pop _ (by omega), heads_pop _ (by omega)]
  rw [← decide_not, decide_eq_decide]
  omega
theorem run_dual (hb : ∀ b ∈ bs, crowd p b ∧ b ≠ 0) {c : Int} (hp : people p) (h1 : 0 ≤ c) (h2 : c < pw p) : ∀ (t : List Mark) (s : List Bool), (∀ m ∈ t, goodM bs m) → runS bs c (dualT bs t) (s.map not) = (runS bs (full p - c) t s).map not
  | [], s, _ => rfl
  | m :: t, s, hg => by
    have hm := hg m List.mem_cons_self
    show runS bs c (dualT bs t) (stepS bs c (dualM bs m) (s.map not)) = (runS bs (full p - c) t (stepS bs (full p - c) m s)).map not
    rw [← run_dual hb hp h1 h2 t _ fun x hx => hg x (List.mem_cons_of_mem _ hx)]
    congr 1
    by_cases hk : m.kind = 0
    · have hk2 : (dualM bs m).kind = 0 := by unfold dualM; rw [if_pos hk]
      unfold stepS
      rw [if_pos hk, if_pos hk2, cnt_dual hb hp h1 h2 hm hk]
      rfl
    · have hk2 : ¬ (dualM bs m).kind = 0 := by unfold dualM; rw [if_neg hk]; split <;> simp
      unfold stepS
      rw [if_neg hk, if_neg hk2]
      match s with
      | [] => rfl
      | [_] => rfl
      | b :: a :: r =>
        simp only [List.map_cons]
        congr 1
        by_cases h1 : m.kind = 1
        · have : (dualM bs m).kind = 2 := by unfold dualM; rw [if_neg hk, if_pos h1]
          rw [if_pos this, if_neg (by omega)]
          cases a <;> cases b <;> rfl
        · have h2 : m.kind = 2 := by rcases hm with h | h | h <;> omega
          have : ¬ (dualM bs m).kind = 2 := by unfold dualM; rw [if_neg hk, if_neg h1]; simp
          rw [if_neg this, if_pos h2]
          cases a <;> cases b <;> rfl
theorem says_dual {t : List Mark} (ht : termOk ⟨p, bs⟩ t) {c : Int} (h1 : 0 ≤ c) (h2 : c < pw p) : says bs c (dualT bs t) = !says bs (full p - c) t := by
  have e := run_dual ht.1.2.2 ht.1.1 h1 h2 t [] (walk_good t 0 1 ht.2.2)
  have f := (runS_frame (bs := bs) (c := full p - c) t [] [] 1 ht.2.2).2
  unfold says
  rw [List.map_nil] at e
  rw [e]
  match hr : runS bs (full p - c) t [], f with
  | [x], _ => rfl
theorem says_mono {t : List Mark} (ht : termOk ⟨p, bs⟩ t) {c w : Int} (h1 : 0 ≤ c) (h2 : c < pw p) (h3 : 0 ≤ w) (h4 : w < p) (h : says bs c t = true) : says bs (add c w) t = true := by
  have hp : people p := ht.1.1
  have pl := pw_le hp
  have hp6 : p ≤ 6 := hp.2
  have hb := ht.1.2.2
  have hc : ∀ m, goodM bs m → m.kind = 0 → cnt bs c m = true → cnt bs (add c w) m = true := by
    intro m hm hk hx
    rcases hm with ⟨_, g1, g2, g3, g4⟩ | g | g <;> try omega
    obtain ⟨_, k1, k2⟩ := body_ok hb g1 g2
    unfold cnt at hx ⊢
    generalize hB : bs.getD m.at_.toNat 0 = B at hx g4 k1 k2
    have k3 : B < pw p := k2
    have := pop_mono B.toNat (by omega) c.toNat (by omega) w.toNat (by omega)
    rw [Int.toNat_of_nonneg k1, Int.toNat_of_nonneg h1, Int.toNat_of_nonneg h3] at this
    have b1 := band_lt k1 (by omega) h1 (by omega)
    have b3 := add_lt h1 (by omega) h3 (by omega)
    have b2 := band_lt (a := B) (b := add c w) k1 (by omega) b3.1 b3.2
    rw [decide_eq_true_eq, heads_pop _ (by omega)] at hx
    rw [decide_eq_true_eq, heads_pop _ (by omega)]
    omega
  have key : ∀ (t : List Mark) (s r : List Bool), (∀ m ∈ t, goodM bs m) → s.length = r.length → (∀ i, s.getD i false = true → r.getD i false = true) →
      (runS bs c t s).length = (runS bs (add c w) t r).length ∧ ∀ i, (runS bs c t s).getD i false = true → (runS bs (add c w) t r).getD i false = true := by
    intro t
    induction t with
    | nil => exact fun s r _ hl hi => ⟨hl, hi⟩
    | cons m t ih =>
      intro s r hg hl hi
      have hm := hg m List.mem_cons_self
      refine ih _ _ (fun x hx => hg x (List.mem_cons_of_mem _ hx)) ?_ ?_
      · unfold stepS
        by_cases hk : m.kind = 0
        · rw [if_pos hk, if_pos hk]; simp [hl]
        · rw [if_neg hk, if_neg hk]
          match s, r, hl with
          | [], [], _ => rfl
          | [_], [_], _ => rfl
          | b :: a :: s, b' :: a' :: r, hl => simpa using hl
      · unfold stepS
        by_cases hk : m.kind = 0
        · rw [if_pos hk, if_pos hk]
          intro i
          cases i with
          | zero => simpa using hc m hm hk
          | succ i => simpa using hi i
        · rw [if_neg hk, if_neg hk]
          match s, r, hl with
          | [], [], _ => exact hi
          | [_], [_], _ => exact hi
          | b :: a :: s, b' :: a' :: r, hl =>
            intro i
            have h0 := hi 0
            have h1 := hi 1
            simp only [List.getD_cons_zero, List.getD_cons_succ] at h0 h1
            cases i with
            | zero =>
              simp only [List.getD_cons_zero]
              by_cases h2 : m.kind = 2
              · rw [if_pos h2, if_pos h2]
                cases a <;> cases b <;> cases a' <;> cases b' <;> simp_all
              · rw [if_neg h2, if_neg h2]
                cases a <;> cases b <;> cases a' <;> cases b' <;> simp_all
            | succ i => simpa using hi (i + 2)
  have := (key t [] [] (walk_good t 0 1 ht.2.2) rfl (fun i h => h)).2 0
  unfold says at h ⊢
  revert this h
  cases runS bs c t [] <;> cases runS bs (add c w) t [] <;> simp
  exact fun h1 h2 => h2 h1
theorem says_const {t : List Mark} (ht : termOk ⟨p, bs⟩ t) {c : Int} {v : Bool} (hc : ∀ m, goodM bs m → m.kind = 0 → cnt bs c m = v) : says bs c t = v := by
  have key : ∀ (t : List Mark) (s : List Bool), (∀ m ∈ t, goodM bs m) → (∀ x ∈ s, x = v) → ∀ x ∈ runS bs c t s, x = v := by
    intro t
    induction t with
    | nil => exact fun s _ h => h
    | cons m t ih =>
      intro s hg hs
      refine ih _ (fun x hx => hg x (List.mem_cons_of_mem _ hx)) ?_
      unfold stepS
      by_cases hk : m.kind = 0
      · rw [if_pos hk]
        intro x hx
        rcases List.mem_cons.1 hx with rfl | hx
        · exact hc m (hg m List.mem_cons_self) hk
        · exact hs x hx
      · rw [if_neg hk]
        match s with
        | [] => exact hs
        | [_] => exact hs
        | b :: a :: r =>
          intro x hx
          have h1 := hs b List.mem_cons_self
          have h2 := hs a (List.mem_cons_of_mem _ List.mem_cons_self)
          rcases List.mem_cons.1 hx with rfl | hx
          · rw [h1, h2]; split <;> cases v <;> rfl
          · exact hs x (List.mem_cons_of_mem _ (List.mem_cons_of_mem _ hx))
  have f := (runS_frame (bs := bs) (c := c) t [] [] 1 ht.2.2).2
  have k := key t [] (walk_good t 0 1 ht.2.2) (fun x hx => by cases hx)
  unfold says
  revert f k
  match runS bs c t [] with
  | [] => intro f; cases f
  | x :: r => intro f k; exact k x List.mem_cons_self
theorem says_none {t : List Mark} (ht : termOk ⟨p, bs⟩ t) : says bs 0 t = false := says_const ht fun m hm hk => by
  rcases hm with ⟨_, g1, g2, g3, g4⟩ | g | g <;> try omega
  obtain ⟨hp, k1, k2⟩ := body_ok (p := p) (bs := bs) ht.1.2.2 g1 g2
  have pl := pw_le hp
  unfold cnt
  generalize hB : bs.getD m.at_.toNat 0 = B at g4 k1 k2
  have := pop_none B.toNat (by omega)
  rw [Int.toNat_of_nonneg k1] at this
  have b1 := band_lt (a := B) (b := 0) k1 (by omega) (by decide) (by decide)
  rw [decide_eq_false_iff_not, heads_pop _ (by omega), this]
  omega
theorem says_full {t : List Mark} (ht : termOk ⟨p, bs⟩ t) : says bs (full p) t = true := says_const ht fun m hm hk => by
  rcases hm with ⟨_, g1, g2, g3, g4⟩ | g | g <;> try omega
  obtain ⟨hp, k1, k2⟩ := body_ok (p := p) (bs := bs) ht.1.2.2 g1 g2
  have pl := pw_le hp
  have pn := pw_nat hp
  have hp6 : p.toNat < 7 := by have := hp.2; omega
  unfold cnt
  generalize hB : bs.getD m.at_.toNat 0 = B at g4 k1 k2
  have := pop_full p.toNat hp6 B.toNat (by omega)
  rw [Int.toNat_of_nonneg k1, show ((2 ^ p.toNat - 1 : Nat) : Int) = full p by unfold full; omega] at this
  rw [this, decide_eq_true_eq]
  omega
end
end Go.Proofs.Ytbbgojaloebknaa.Vc
