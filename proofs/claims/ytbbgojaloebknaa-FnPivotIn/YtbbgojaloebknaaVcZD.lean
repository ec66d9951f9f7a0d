/- Part ZD: pivots in an order. -/
import Derived.Test.YtbbgojaloebknaaVcZC
namespace Go.Proofs.Ytbbgojaloebknaa.Vc
open Go.Proofs
set_option maxRecDepth 10000
set_option maxHeartbeats 4000000
def has (c w : Int) : Bool := decide ((shrv .i64 c w).tmod 2 = 1)
def add (c w : Int) : Int := bitop .i64 .or c (1 * 2 ^ min w.toNat IntKind.i64.bits)
theorem add_small : ∀ c, c < 64 → ∀ w, w < 6 → 0 ≤ add (c : Nat) (w : Nat) ∧ add (c : Nat) (w : Nat) < 64 := by decide +kernel
theorem add_lt {c w : Int} (h1 : 0 ≤ c) (h2 : c < 64) (h3 : 0 ≤ w) (h4 : w < 6) : 0 ≤ add c w ∧ add c w < 64 := by
  have := add_small c.toNat (by omega) w.toNat (by omega)
  rwa [Int.toNat_of_nonneg h1, Int.toNat_of_nonneg h3] at this
theorem has_small : ∀ c, c < 64 → ∀ w, w < 6 → (bitop .i64 .and (shrv .i64 (c : Nat) (w : Nat)) 1 = 1 ↔ (shrv .i64 (c : Nat) (w : Nat)).tmod 2 = 1) := by decide +kernel
theorem has_and {c w : Int} (h1 : 0 ≤ c) (h2 : c < 64) (h3 : 0 ≤ w) (h4 : w < 6) : bitop .i64 .and (shrv .i64 c w) 1 = 1 ↔ (shrv .i64 c w).tmod 2 = 1 := by
  have := has_small c.toNat (by omega) w.toNat (by omega)
  rwa [Int.toNat_of_nonneg h1, Int.toNat_of_nonneg h3] at this
theorem wsh_small : ∀ w, w < 6 → IntKind.i64.wrap (1 * 2 ^ min (w : Nat) IntKind.i64.bits) = 1 * 2 ^ min (w : Nat) IntKind.i64.bits := by decide +kernel
theorem wshw {w : Int} (h3 : 0 ≤ w) (h4 : w < 6) : IntKind.i64.wrap (1 * 2 ^ min w.toNat IntKind.i64.bits) = 1 * 2 ^ min w.toNat IntKind.i64.bits := wsh_small w.toNat (by omega)
def seenP (p : Int) : List Int → Int → Option Int
  | [], c => some c
  | w :: l, c => if 0 ≤ w ∧ w < p ∧ has c w = false then seenP p l (add c w) else none
def pivotR (bs : List Int) (t : List Mark) : List Int → Int → Int
  | [], _ => -1
  | w :: l, c => if says bs (add c w) t then w else pivotR bs t l (add c w)
def pivotIn (h : House) (t : List Mark) (l : List Int) : Int := if termOk h t ∧ (l.length : Int) = h.p ∧ (seenP h.p l 0).isSome = true then pivotR h.bs t l 0 else -1
section
variable {p c : Int} {l : List Int}
theorem seenP_app (p : Int) : ∀ (l m : List Int) (c : Int), seenP p (l ++ m) c = (seenP p l c).bind (seenP p m)
  | [], m, c => rfl
  | w :: l, m, c => by
    simp only [List.cons_append, seenP]
    split
    · exact seenP_app p l m _
    · rfl
theorem seenP_take {i : Nat} (hi : i < l.length) (h : seenP p (l.take i) 0 = some c) : seenP p (l.take (i + 1)) 0 = if 0 ≤ l.getD i 0 ∧ l.getD i 0 < p ∧ has c (l.getD i 0) = false then some (add c (l.getD i 0)) else none := by
  rw [take_succ' 0 hi, seenP_app, h]
  rfl
theorem seenP_none {i : Nat} (h : seenP p (l.take i) 0 = none) : seenP p l 0 = none := by
  rw [← List.take_append_drop i l, seenP_app, h]
  rfl
theorem seenP_lt (hp : p ≤ 6) : ∀ (l : List Int) (c d : Int), 0 ≤ c → c < 64 → seenP p l c = some d → 0 ≤ d ∧ d < 64
  | [], c, d, h1, h2, h => by injection h with h; omega
  | w :: l, c, d, h1, h2, h => by
    simp only [seenP] at h
    split at h
    · rename_i hw
      obtain ⟨g1, g2⟩ := add_lt (c := c) (w := w) h1 h2 hw.1 (by omega)
      exact seenP_lt hp l _ d g1 g2 h
    · cases h
theorem drop_cons {α : Type} {l : List α} {i : Nat} (d : α) (h : i < l.length) : l.drop i = l.getD i d :: l.drop (i + 1) := by
  rw [List.getD_eq_getElem?_getD, List.getElem?_eq_getElem h]
  exact List.drop_eq_getElem_cons h
end
structure Px where
  h : House
  t : List Mark
  l : List Int
def C15 : List AV → (AV → Prop) → Prop := con (X := Px) (fun x => [enH x.h, slM x.t, slI x.l]) (fun x => termI x.h x.t ∧ (∀ w ∈ x.l, i64r w) ∧ x.l.length < 4611686018427387904) fun x K => K (.int .i64 (pivotIn x.h x.t x.l))
theorem F15 : FF 15 C15 := by
  refine fitE [(38, C38), (39, C39)] (by simp only [List.mem_cons, List.not_mem_nil, or_false]; rintro _ (rfl | rfl) <;> first | exact F38 | exact F39) Try.f15 ⟨rfl, by decide +kernel, by decide +kernel⟩ (fun _ _ _ hk h => hk _ h) ?_
  rintro ⟨⟨p, bs⟩, t, l⟩ K ⟨hI, h5, h6⟩ h
  refine ⟨Nat.le_of_ble_eq_true rfl, ?_⟩
  dsimp only at h hI h5 h6 ⊢
  obtain ⟨h1, h2, h3, h4⟩ := hI
  repeat' ((conv => whnf); first | refine vA ?_ | with_reducible first | refine vS ?_ | refine vR ?_ | refine vB ?_ | refine br_nt ?_ | refine br_tt ?_ | refine br_ff ?_ | refine vP ?_ | refine vQ ?_ | refine vT ?_ | refine vF ?_ | refine br_and ?_ | refine br_or ?_ | refine br_d (fun _ => ?_) fun _ => ?_ | refine vM (fun _ => ?_) fun _ => ?_)
  refine ⟨(⟨p, bs⟩, t), ?_, ⟨⟨h1, h2, h3, h4⟩⟩, ?_⟩
  · repeat' ((conv => whnf); first | with_reducible exact True.intro | exact vW | with_reducible refine And.intro ?_ ?_)
  repeat' ((conv => whnf); first | refine vA ?_ | with_reducible first | refine vS ?_ | refine vR ?_ | refine vB ?_ | refine br_nt ?_ | refine br_tt ?_ | refine br_ff ?_ | refine vP ?_ | refine vQ ?_ | refine vT ?_ | refine vF ?_ | refine br_and ?_ | refine br_or ?_ | refine br_d (fun _ => ?_) fun _ => ?_ | refine vM (fun _ => ?_) fun _ => ?_)
  · rename_i hO hl
    have hp := hO.1.1
    have h63 : i64r l.length := ⟨by omega, by omega⟩
    have pp : people p := hp
    have hp6 : p ≤ 6 := hp.2
    have hp1 : 1 ≤ p := hp.1
    have hsy : ∀ c, 0 ≤ c → c < 64 → sayOk ⟨p, bs, t, c⟩ ∧ t.length ≤ 9 := fun c g1 g2 => by
      have := hO.2.1
      have pw2 := (pw_le pp).2
      exact ⟨⟨by show t.length < 4611686018427387904; have : t.length ≤ 9 := this; omega, hO.2.2, fun b hb => by have g : crowd p b := (hO.1.2.2 b hb).1; have := g.2; omega, g1, g2⟩, this⟩
    refine Lp.mk ⟨Nat × Int, fun x => [(1, slM t), (2, slI l), (3, .ptr 0 0), (7, .int .i64 x.2), (24, slI l), (25, .int .i64 l.length), (26, .int .i64 x.1)], fun _ => [.box [.int .i64 p, slI bs]], fun x => x.1 ≤ l.length ∧ seenP p (l.take x.1) 0 = some x.2, fun x => l.length - x.1, ⟨(0, 0), ⟨Nat.zero_le _, rfl⟩, ⟨⟨[some 0], [], rfl, rfl, ?_, ?_⟩⟩⟩, ?_⟩
    · repeat' ((conv => whnf); first | with_reducible exact True.intro | exact vW | with_reducible refine And.intro ?_ ?_)
    · repeat' ((conv => whnf); first | with_reducible exact True.intro | exact vW | with_reducible refine And.intro ?_ ?_)
    rintro ⟨i, c⟩ ⟨i1, i2⟩
    dsimp only at i1 i2 ⊢
    have hc := seenP_lt hp.2 _ 0 c (by omega) (by omega) i2
    have bad : i < l.length → ¬ (0 ≤ l.getD i 0 ∧ l.getD i 0 < p ∧ has c (l.getD i 0) = false) → pivotIn ⟨p, bs⟩ t l = -1 := fun hi hn => by
      unfold pivotIn
      have := seenP_take hi i2
      rw [if_neg hn] at this
      rw [if_neg]
      intro q
      have q2 := q.2.2
      rw [seenP_none this] at q2
      cases q2
    have good : i < l.length → (0 ≤ l.getD i 0 ∧ l.getD i 0 < p ∧ has c (l.getD i 0) = false) → seenP p (l.take (i + 1)) 0 = some (add c (l.getD i 0)) := fun hi hn => by rw [seenP_take hi i2, if_pos hn]
    repeat' ((conv => whnf); first | with_reducible refine Wr.ex (wshw (by omega) (by omega)) ?_ | refine vA ?_ | with_reducible first | refine vS ?_ | refine vR ?_ | refine vB ?_ | refine br_nt ?_ | refine br_tt ?_ | refine br_ff ?_ | refine vP ?_ | refine vQ ?_ | refine vT ?_ | refine vF ?_ | refine br_and ?_ | refine br_or ?_ | refine br_d (fun _ => ?_) fun _ => ?_ | refine vM (fun _ => ?_) fun _ => ?_)
    · rename_i g
      rw [bad (by omega) (fun q => absurd q.1 (Int.not_le.2 g))] at h
      exact h
    · rename_i g1 g
      rw [bad (by omega) (fun q => absurd q.2.1 (Int.not_lt.2 g))] at h
      exact h
    · rename_i g1 g2 g
      replace g1 : ¬ l.getD i 0 < 0 := g1
      replace g2 : ¬ l.getD i 0 ≥ p := g2
      rw [bad (by omega) (fun q => by
        have e : has c (l.getD i 0) = true := decide_eq_true ((has_and hc.1 hc.2 (by omega) (by omega)).1 g)
        rw [e] at q
        cases q.2.2)] at h
      exact h
    · rename_i g1 g2 g
      replace g1 : ¬ l.getD i 0 < 0 := g1
      replace g2 : ¬ l.getD i 0 ≥ p := g2
      have w1 : 0 ≤ l.getD i 0 := by omega
      have w2 : l.getD i 0 < 6 := by omega
      have e : has c (l.getD i 0) = false := decide_eq_false fun q => g ((has_and hc.1 hc.2 w1 w2).2 q)
      refine ⟨(i + 1, add c (l.getD i 0)), ⟨by show i + 1 ≤ l.length; omega, good (by omega) ⟨by omega, by omega, e⟩⟩, by show l.length - (i + 1) < l.length - i; omega, ⟨⟨[some 0], [], rfl, rfl, ?_, ?_⟩⟩⟩
      · repeat' ((conv => whnf); first | with_reducible exact True.intro | exact vW | with_reducible refine And.intro ?_ ?_)
      · repeat' ((conv => whnf); first | with_reducible exact True.intro | exact vW | with_reducible refine And.intro ?_ ?_)
    have hlen : i = l.length := by omega
    have hsome : (seenP p l 0).isSome = true := by
      rw [hlen, List.take_length] at i2
      rw [i2]; rfl
    have hpv : pivotIn ⟨p, bs⟩ t l = pivotR bs t l 0 := if_pos ⟨hO, hl, hsome⟩
    rw [hpv] at h
    repeat' ((conv => whnf); first | refine vA ?_ | with_reducible first | refine vS ?_ | refine vR ?_ | refine vB ?_ | refine br_nt ?_ | refine br_tt ?_ | refine br_ff ?_ | refine vP ?_ | refine vQ ?_ | refine vT ?_ | refine vF ?_ | refine br_and ?_ | refine br_or ?_ | refine br_d (fun _ => ?_) fun _ => ?_ | refine vM (fun _ => ?_) fun _ => ?_)
    refine Lp.mk ⟨Nat × Int, fun x => [(1, slM t), (3, .ptr 0 0), (10, .int .i64 x.2), (50, slI l), (51, .int .i64 l.length), (52, .int .i64 x.1)], fun _ => [.box [.int .i64 p, slI bs]], fun x => x.1 ≤ l.length ∧ seenP p (l.take x.1) 0 = some x.2 ∧ pivotR bs t l 0 = pivotR bs t (l.drop x.1) x.2, fun x => l.length - x.1, ⟨(0, 0), ⟨Nat.zero_le _, rfl, rfl⟩, ⟨⟨[some 0], [], rfl, rfl, ?_, ?_⟩⟩⟩, ?_⟩
    · repeat' ((conv => whnf); first | with_reducible exact True.intro | exact vW | with_reducible refine And.intro ?_ ?_)
    · repeat' ((conv => whnf); first | with_reducible exact True.intro | exact vW | with_reducible refine And.intro ?_ ?_)
    rintro ⟨j, d⟩ ⟨j1, j2, j3⟩
    dsimp only at j1 j2 j3 ⊢
    have hd := seenP_lt hp.2 _ 0 d (by omega) (by omega) j2
    have hw : j < l.length → 0 ≤ l.getD (j : Int).toNat 0 ∧ l.getD (j : Int).toNat 0 < p ∧ seenP p (l.take (j + 1)) 0 = some (add d (l.getD j 0)) := fun hj => by
      have e := seenP_take hj j2
      by_cases hq : 0 ≤ l.getD j 0 ∧ l.getD j 0 < p ∧ has d (l.getD j 0) = false
      · rw [if_pos hq] at e
        exact ⟨hq.1, hq.2.1, e⟩
      · rw [if_neg hq] at e
        rw [seenP_none e] at hsome
        cases hsome
    repeat' ((conv => whnf); first | with_reducible refine Wr.ex (wshw (by have := hw (by omega); omega) (by have := hw (by omega); omega)) ?_ | refine vA ?_ | with_reducible first | refine vS ?_ | refine vR ?_ | refine vB ?_ | refine br_nt ?_ | refine br_tt ?_ | refine br_ff ?_ | refine vP ?_ | refine vQ ?_ | refine vT ?_ | refine vF ?_ | refine br_and ?_ | refine br_or ?_ | refine br_d (fun _ => ?_) fun _ => ?_ | refine vM (fun _ => ?_) fun _ => ?_)
    · obtain ⟨w1, w2, w3⟩ := hw (by omega)
      replace w1 : 0 ≤ l.getD j 0 := w1
      replace w2 : l.getD j 0 < p := w2
      have g := add_lt hd.1 hd.2 w1 (by omega)
      refine ⟨⟨p, bs, t, add d (l.getD j 0)⟩, ?_, ⟨hsy _ g.1 g.2⟩, ?_⟩
      · repeat' ((conv => whnf); first | with_reducible exact True.intro | exact vW | with_reducible refine And.intro ?_ ?_)
      have e3 := j3
      rw [drop_cons 0 (by omega), pivotR] at e3
      dsimp only
      repeat' ((conv => whnf); first | refine vA ?_ | with_reducible first | refine vS ?_ | refine vR ?_ | refine vB ?_ | refine br_nt ?_ | refine br_tt ?_ | refine br_ff ?_ | refine vP ?_ | refine vQ ?_ | refine vT ?_ | refine vF ?_ | refine br_and ?_ | refine br_or ?_ | refine br_d (fun _ => ?_) fun _ => ?_ | refine vM (fun _ => ?_) fun _ => ?_)
      · rename_i hv
        rw [if_pos hv] at e3
        rw [e3] at h
        exact h
      · rename_i hv
        rw [if_neg (by rw [hv]; exact Bool.false_ne_true)] at e3
        refine ⟨(j + 1, add d (l.getD j 0)), ⟨by show j + 1 ≤ l.length; omega, w3, e3⟩, by show l.length - (j + 1) < l.length - j; omega, ⟨⟨[some 0], [], rfl, rfl, ?_, ?_⟩⟩⟩
        · repeat' ((conv => whnf); first | with_reducible exact True.intro | exact vW | with_reducible refine And.intro ?_ ?_)
        · repeat' ((conv => whnf); first | with_reducible exact True.intro | exact vW | with_reducible refine And.intro ?_ ?_)
    · rw [j3, List.drop_eq_nil_of_le (by omega)] at h
      exact h
  · rename_i hO hl
    unfold pivotIn at h
    rw [if_neg (fun q => hl q.2.1)] at h
    exact h
  · rename_i hO
    unfold pivotIn at h
    rw [if_neg (fun q => hO q.1)] at h
    exact h
end Go.Proofs.Ytbbgojaloebknaa.Vc
