/- Part ZQ: terms that are drawn. -/
import Derived.Test.YtbbgojaloebknaaVcZP
namespace Go.Proofs.Ytbbgojaloebknaa.Vc
open Go.Proofs
set_option maxRecDepth 10000
set_option maxHeartbeats 4000000
def encP (l : List Mark) : List AV := [slM l]
def sumL : List (List Mark) → Nat
  | [] => 0
  | l :: r => l.length + sumL r
theorem sumL_app : ∀ a b : List (List Mark), sumL (a ++ b) = sumL a + sumL b
  | [], b => by simp [sumL]
  | x :: a, b => by simp only [List.cons_append, sumL, sumL_app a b]; omega
theorem sumL_mem {l : List Mark} : ∀ {P : List (List Mark)}, l ∈ P → l.length ≤ sumL P
  | x :: P, h => by
    rcases List.mem_cons.1 h with rfl | h
    · simp only [sumL]; omega
    · have := sumL_mem h; simp only [sumL]; omega
structure Tx where
  r : Rd
  h : House
  n : Int
theorem app_extG {α : Type} (enc : α → List AV) (d : α) {l : List α} {c : α} {g : Nat → List AV} (hg : g 0 = enc c) : (l ++ [c]).length = l.length + 1 ∧ ∀ j, j < (l ++ [c]).length → enc ((l ++ [c]).getD j d) = appF l.length (fun j => enc (l.getD j d)) g j := by
  refine ⟨by simp, fun j hj => ?_⟩
  simp only [List.length_append, List.length_cons, List.length_nil] at hj
  unfold appF
  rw [List.getD_eq_getElem?_getD, List.getElem?_append]
  cases hb : Nat.blt j l.length with
  | true =>
    have h1 : j < l.length := Nat.le_of_ble_eq_true hb
    rw [if_pos h1, ← List.getD_eq_getElem?_getD]
    rfl
  | false =>
    have : ¬ j < l.length := fun h => by
      have : Nat.blt j l.length = true := Nat.ble_eq_true_of_le h
      rw [this] at hb; cases hb
    have : j = l.length := by omega
    subst this
    rw [if_neg (by omega)]
    simp [hg]
theorem one_ext {l : List (List Mark)} {x y z : Int} : (l ++ [[(⟨x, y, z⟩ : Mark)]]).length = l.length + 1 ∧ ∀ j, j < (l ++ [[(⟨x, y, z⟩ : Mark)]]).length → encP ((l ++ [[(⟨x, y, z⟩ : Mark)]]).getD j []) = appF l.length (fun j => encP (l.getD j []))
    (fun i => (fun i => [[AV.sl 3 1 fun i => (fun i => [[AV.int .i64 x, AV.int .i64 y, AV.int .i64 z]].getD i [AV.int .i64 0, AV.int .i64 0, AV.int .i64 0]) (0 + i)]].getD i [AV.nils]) (0 + i)) j := by
  refine app_extG encP [] ?_
  have e : (fun i => (fun i => [[AV.int .i64 x, AV.int .i64 y, AV.int .i64 z]].getD i [AV.int .i64 0, AV.int .i64 0, AV.int .i64 0]) (0 + i)) = fun i => encM (([⟨x, y, z⟩] : List Mark).getD i default) := by
    funext i
    simp only [Nat.zero_add]
    match i with
    | 0 => rfl
    | i + 1 => rfl
  rw [e]
  rfl
theorem appF_enc {α : Type} (enc : α → List AV) (d : α) (l r : List α) : appF l.length (fun i => enc (l.getD i d)) (fun i => enc (r.getD i d)) = fun i => enc ((l ++ r).getD i d) := by
  funext i
  unfold appF
  rw [List.getD_eq_getElem?_getD (l := l ++ r), List.getElem?_append]
  cases hb : Nat.blt i l.length with
  | true =>
    have h1 : i < l.length := Nat.le_of_ble_eq_true hb
    rw [if_pos h1, ← List.getD_eq_getElem?_getD]
    rfl
  | false =>
    have : ¬ i < l.length := fun h => by
      have : Nat.blt i l.length = true := Nat.ble_eq_true_of_le h
      rw [this] at hb; cases hb
    rw [if_neg this, ← List.getD_eq_getElem?_getD]
    rfl
theorem lit1 {x y z : Int} : (fun i => (fun i => [[AV.int .i64 x, AV.int .i64 y, AV.int .i64 z]].getD i [AV.int .i64 0, AV.int .i64 0, AV.int .i64 0]) (0 + i)) = fun i => encM (([⟨x, y, z⟩] : List Mark).getD i default) := by
  funext i
  simp only [Nat.zero_add]
  match i with
  | 0 => rfl
  | i + 1 => rfl
theorem three_ext {A B : List Mark} {x y z : Int} : (A ++ B ++ [(⟨x, y, z⟩ : Mark)]).length = A.length + B.length + 1 ∧ ∀ j, j < (A ++ B ++ [(⟨x, y, z⟩ : Mark)]).length → encM ((A ++ B ++ [(⟨x, y, z⟩ : Mark)]).getD j default) =
    appF (A.length + B.length) (appF A.length (fun i => encM (A.getD i default)) fun i => encM (B.getD i default)) (fun i => (fun i => [[AV.int .i64 x, AV.int .i64 y, AV.int .i64 z]].getD i [AV.int .i64 0, AV.int .i64 0, AV.int .i64 0]) (0 + i)) j := by
  refine ⟨by simp; omega, fun j _ => ?_⟩
  rw [lit1, appF_enc, show A.length + B.length = (A ++ B).length by simp, appF_enc]
theorem getD_take_app {α : Type} {l r : List α} {n i : Nat} {d : α} (hn : n ≤ l.length) (hi : i < n) : (l.take n ++ r).getD i d = l.getD i d := by
  rw [List.getD_eq_getElem?_getD, List.getElem?_append_left (by rw [List.length_take]; omega), List.getElem?_take_of_lt hi, ← List.getD_eq_getElem?_getD]
theorem merge_ext {P : List (List Mark)} {a c : Nat} {T : List Mark} (h : c ≤ P.length) (ha : a ≤ P.length) : (P.take a ++ [T] ++ P.drop c).length = a + 1 + (P.length - c) ∧ ∀ j, j < (P.take a ++ [T] ++ P.drop c).length → encP ((P.take a ++ [T] ++ P.drop c).getD j []) =
    appF (a + 1) (appF a (fun i => (fun j => encP (P.getD j [])) (0 + 0 + i)) fun i => (fun i => [[AV.sl 3 T.length fun i => (fun j => encM (T.getD j default)) (0 + i)]].getD i [AV.nils]) (0 + i)) (fun i => (fun j => encP (P.getD j [])) (0 + c + i)) j := by
  have hl : (P.take a).length = a := by rw [List.length_take]; omega
  refine ⟨by simp; omega, fun j hj => ?_⟩
  have e1 : (fun i => (fun j => encM (T.getD j default)) (0 + i)) = fun j => encM (T.getD j default) := by funext i; rw [Nat.zero_add]
  rw [e1]
  unfold appF
  cases hb : Nat.blt j (a + 1) with
  | true =>
    have h1 : j < a + 1 := Nat.le_of_ble_eq_true hb
    cases hb2 : Nat.blt j a with
    | true =>
      have h2 : j < a := Nat.le_of_ble_eq_true hb2
      rw [List.append_assoc, getD_take_app ha h2]
      show _ = encP (P.getD (0 + 0 + j) [])
      rw [show 0 + 0 + j = j by omega]
    | false =>
      have h2 : j = a := by
        rcases Nat.lt_or_ge j a with h | h
        · have : Nat.blt j a = true := Nat.ble_eq_true_of_le h
          rw [this] at hb2; cases hb2
        · omega
      subst h2
      rw [List.append_assoc, List.getD_eq_getElem?_getD, List.getElem?_append_right (by omega), hl]
      simp [encP]
  | false =>
    have h1 : a + 1 ≤ j := by
      rcases Nat.lt_or_ge j (a + 1) with h | h
      · have : Nat.blt j (a + 1) = true := Nat.ble_eq_true_of_le h
        rw [this] at hb; cases hb
      · exact h
    show _ = encP (P.getD (0 + c + (j - (a + 1))) [])
    rw [List.getD_eq_getElem?_getD, List.getElem?_append_right (by simp [hl]; omega), List.getElem?_drop, ← List.getD_eq_getElem?_getD]
    congr 2
    simp [hl]
theorem sumL_take_drop : ∀ (P : List (List Mark)) (a : Nat), a + 1 < P.length → sumL (P.take a) + sumL (P.drop (a + 2)) + (P.getD a []).length + (P.getD (a + 1) []).length = sumL P
  | [], a, h => by simp at h
  | [_], a, h => by simp at h
  | x :: y :: P, 0, _ => by simp [sumL]; omega
  | x :: P, a + 1, h => by
    have := sumL_take_drop P a (by simpa using h)
    simp only [List.take_succ_cons, List.drop_succ_cons, sumL, List.getD_cons_succ]
    omega
def C60 : GC := conG (X := Tx) (fun x => [.ptr 0 0, enH x.h, .int .i64 x.n]) (fun x => [.box [slB x.r.b, .int .i64 x.r.p]]) (fun x => x.r.okn 600000000 ∧ x.h.i64 ∧ x.h.bs.length ≤ 8 ∧ i64r x.n) fun x K => ∀ (t : List Mark) (p' : Int), x.r.p ≤ p' → p' ≤ x.r.p + 40 → t.length ≤ 9 → (∀ m ∈ t, m.i64) → K (slM t) [.box [slB x.r.b, .int .i64 p']]
theorem F60 : GG 60 C60 := by
  refine fitG [(48, C48)] (by simp only [List.mem_cons, List.not_mem_nil, or_false]; rintro _ rfl <;> first | exact F48) [(52, C52), (53, C53)] (by simp only [List.mem_cons, List.not_mem_nil, or_false]; rintro _ (rfl | rfl) <;> first | exact F52 | exact F53) Try.f60 ⟨rfl, by decide +kernel, by decide +kernel⟩ (by intro x K K2 hk h; (try dsimp only at h ⊢); intros; apply hk; first | exact h | (apply h <;> assumption)) ?_
  rintro ⟨⟨b, p⟩, ⟨hp, bs⟩, n⟩ K ⟨⟨h1, h2, h3, h4⟩, h5, h6, h7⟩ h
  refine ⟨Nat.le_of_ble_eq_true rfl, ?_⟩
  dsimp only [enH] at h h1 h2 h3 h4 h5 h6 h7 ⊢
  repeat' ((conv => whnf); first | refine vA ?_ | with_reducible first | refine vS ?_ | refine vR ?_ | refine vB ?_ | refine br_nt ?_ | refine br_tt ?_ | refine br_ff ?_ | refine vP ?_ | refine vQ ?_ | refine vT ?_ | refine vF ?_ | refine br_and ?_ | refine br_or ?_ | refine br_d (fun _ => ?_) fun _ => ?_ | refine vM (fun _ => ?_) fun _ => ?_)
  · refine ⟨_, _, [0], [], rfl, ?_, ?_, (⟨b, p⟩, 4), rfl, rfl, ⟨⟨h1, h2, ?_, ?_⟩, ?_⟩, ?_⟩
    · repeat' ((conv => whnf); first | with_reducible exact True.intro | exact vW | with_reducible refine And.intro ?_ ?_)
      try exact Chk.mk (by rw [pw_sh (by assumption)])
    · repeat' ((conv => whnf); first | with_reducible exact True.intro | exact vW | with_reducible refine And.intro ?_ ?_)
    · dsimp only; omega
    · dsimp only; omega
    · unfold i64r; dsimp only; omega
    intro k9 p9 z0 z1 z2
    dsimp only at z0 z1 z2
    rcases (show k9 = 0 ∨ k9 = 1 ∨ k9 = 2 ∨ k9 = 3 by omega) with rfl | rfl | rfl | rfl
    · repeat' ((conv => whnf); first | refine vA ?_ | with_reducible first | refine vS ?_ | refine vR ?_ | refine vB ?_ | refine br_nt ?_ | refine br_tt ?_ | refine br_ff ?_ | refine vP ?_ | refine vQ ?_ | refine vT ?_ | refine vF ?_ | refine br_and ?_ | refine br_or ?_ | refine br_d (fun _ => ?_) fun _ => ?_ | refine vM (fun _ => ?_) fun _ => ?_)
      refine ⟨_, _, [some 0], [], rfl, rfl, ?_, ?_, h [] p9 (by omega) (by omega) (by decide) (by simp)⟩
      · repeat' ((conv => whnf); first | with_reducible exact True.intro | exact vW | with_reducible refine And.intro ?_ ?_)
      · repeat' ((conv => whnf); first | with_reducible exact True.intro | exact vW | with_reducible refine And.intro ?_ ?_)
    · repeat' ((conv => whnf); first | refine vA ?_ | with_reducible first | refine vS ?_ | refine vR ?_ | refine vB ?_ | refine br_nt ?_ | refine br_tt ?_ | refine br_ff ?_ | refine vP ?_ | refine vQ ?_ | refine vT ?_ | refine vF ?_ | refine br_and ?_ | refine br_or ?_ | refine br_d (fun _ => ?_) fun _ => ?_ | refine vM (fun _ => ?_) fun _ => ?_)
      refine ⟨_, _, [some 0], [], rfl, rfl, ?_, ?_, h [⟨1, 0, 0⟩] p9 (by omega) (by omega) (by decide) (by simp [Mark.i64, i64r])⟩
      · repeat' ((conv => whnf); first | with_reducible exact True.intro | exact vW | with_reducible refine And.intro ?_ ?_)
        all_goals exact Chk.mk ⟨rfl, fun i hi => by match i, hi with | 0, _ => rfl⟩
      · repeat' ((conv => whnf); first | with_reducible exact True.intro | exact vW | with_reducible refine And.intro ?_ ?_)
    · repeat' ((conv => whnf); first | refine vA ?_ | with_reducible first | refine vS ?_ | refine vR ?_ | refine vB ?_ | refine br_nt ?_ | refine br_tt ?_ | refine br_ff ?_ | refine vP ?_ | refine vQ ?_ | refine vT ?_ | refine vF ?_ | refine br_and ?_ | refine br_or ?_ | refine br_d (fun _ => ?_) fun _ => ?_ | refine vM (fun _ => ?_) fun _ => ?_)
      refine ⟨_, _, [some 0], [], rfl, rfl, ?_, ?_, h [⟨0, 3, 7⟩] p9 (by omega) (by omega) (by decide) (by simp [Mark.i64, i64r])⟩
      · repeat' ((conv => whnf); first | with_reducible exact True.intro | exact vW | with_reducible refine And.intro ?_ ?_)
        all_goals exact Chk.mk ⟨rfl, fun i hi => by match i, hi with | 0, _ => rfl⟩
      · repeat' ((conv => whnf); first | with_reducible exact True.intro | exact vW | with_reducible refine And.intro ?_ ?_)
    · repeat' ((conv => whnf); first | refine vA ?_ | with_reducible first | refine vS ?_ | refine vR ?_ | refine vB ?_ | refine br_nt ?_ | refine br_tt ?_ | refine br_ff ?_ | refine vP ?_ | refine vQ ?_ | refine vT ?_ | refine vF ?_ | refine br_and ?_ | refine br_or ?_ | refine br_d (fun _ => ?_) fun _ => ?_ | refine vM (fun _ => ?_) fun _ => ?_)
      refine ⟨_, _, [some 0], [], rfl, rfl, ?_, ?_, h [⟨0, 0, 1⟩, ⟨0, 0, 1⟩] p9 (by omega) (by omega) (by decide) (by simp [Mark.i64, i64r])⟩
      · repeat' ((conv => whnf); first | with_reducible exact True.intro | exact vW | with_reducible refine And.intro ?_ ?_)
        all_goals exact Chk.mk ⟨rfl, fun i hi => by match i, hi with | 0, _ => rfl | 1, _ => rfl⟩
      · repeat' ((conv => whnf); first | with_reducible exact True.intro | exact vW | with_reducible refine And.intro ?_ ?_)
  refine ⟨_, _, [0], [], rfl, ?_, ?_, (⟨b, p⟩, n), rfl, rfl, ⟨⟨h1, h2, ?_, ?_⟩, h7⟩, ?_⟩
  · repeat' ((conv => whnf); first | with_reducible exact True.intro | exact vW | with_reducible refine And.intro ?_ ?_)
  · repeat' ((conv => whnf); first | with_reducible exact True.intro | exact vW | with_reducible refine And.intro ?_ ?_)
  · dsimp only; omega
  · dsimp only; omega
  intro v p1 g1 g2
  dsimp only at g1 g2
  repeat' ((conv => whnf); first | refine vA ?_ | with_reducible first | refine vS ?_ | refine vR ?_ | refine vB ?_ | refine br_nt ?_ | refine br_tt ?_ | refine br_ff ?_ | refine vP ?_ | refine vQ ?_ | refine vT ?_ | refine vF ?_ | refine br_and ?_ | refine br_or ?_ | refine br_d (fun _ => ?_) fun _ => ?_ | refine vM (fun _ => ?_) fun _ => ?_)
  · refine ⟨_, _, [0], [], rfl, ?_, ?_, (⟨b, p1⟩, 4), rfl, rfl, ⟨⟨h1, h2, ?_, ?_⟩, ?_⟩, ?_⟩
    · repeat' ((conv => whnf); first | with_reducible exact True.intro | exact vW | with_reducible refine And.intro ?_ ?_)
      try exact Chk.mk (by rw [pw_sh (by assumption)])
    · repeat' ((conv => whnf); first | with_reducible exact True.intro | exact vW | with_reducible refine And.intro ?_ ?_)
    · dsimp only; omega
    · dsimp only; omega
    · unfold i64r; dsimp only; omega
    intro k9 p9 z0 z1 z2
    dsimp only at z0 z1 z2
    rcases (show k9 = 0 ∨ k9 = 1 ∨ k9 = 2 ∨ k9 = 3 by omega) with rfl | rfl | rfl | rfl
    · repeat' ((conv => whnf); first | refine vA ?_ | with_reducible first | refine vS ?_ | refine vR ?_ | refine vB ?_ | refine br_nt ?_ | refine br_tt ?_ | refine br_ff ?_ | refine vP ?_ | refine vQ ?_ | refine vT ?_ | refine vF ?_ | refine br_and ?_ | refine br_or ?_ | refine br_d (fun _ => ?_) fun _ => ?_ | refine vM (fun _ => ?_) fun _ => ?_)
      refine ⟨_, _, [some 0], [], rfl, rfl, ?_, ?_, h [] p9 (by omega) (by omega) (by decide) (by simp)⟩
      · repeat' ((conv => whnf); first | with_reducible exact True.intro | exact vW | with_reducible refine And.intro ?_ ?_)
      · repeat' ((conv => whnf); first | with_reducible exact True.intro | exact vW | with_reducible refine And.intro ?_ ?_)
    · repeat' ((conv => whnf); first | refine vA ?_ | with_reducible first | refine vS ?_ | refine vR ?_ | refine vB ?_ | refine br_nt ?_ | refine br_tt ?_ | refine br_ff ?_ | refine vP ?_ | refine vQ ?_ | refine vT ?_ | refine vF ?_ | refine br_and ?_ | refine br_or ?_ | refine br_d (fun _ => ?_) fun _ => ?_ | refine vM (fun _ => ?_) fun _ => ?_)
      refine ⟨_, _, [some 0], [], rfl, rfl, ?_, ?_, h [⟨1, 0, 0⟩] p9 (by omega) (by omega) (by decide) (by simp [Mark.i64, i64r])⟩
      · repeat' ((conv => whnf); first | with_reducible exact True.intro | exact vW | with_reducible refine And.intro ?_ ?_)
        all_goals exact Chk.mk ⟨rfl, fun i hi => by match i, hi with | 0, _ => rfl⟩
      · repeat' ((conv => whnf); first | with_reducible exact True.intro | exact vW | with_reducible refine And.intro ?_ ?_)
    · repeat' ((conv => whnf); first | refine vA ?_ | with_reducible first | refine vS ?_ | refine vR ?_ | refine vB ?_ | refine br_nt ?_ | refine br_tt ?_ | refine br_ff ?_ | refine vP ?_ | refine vQ ?_ | refine vT ?_ | refine vF ?_ | refine br_and ?_ | refine br_or ?_ | refine br_d (fun _ => ?_) fun _ => ?_ | refine vM (fun _ => ?_) fun _ => ?_)
      refine ⟨_, _, [some 0], [], rfl, rfl, ?_, ?_, h [⟨0, 3, 7⟩] p9 (by omega) (by omega) (by decide) (by simp [Mark.i64, i64r])⟩
      · repeat' ((conv => whnf); first | with_reducible exact True.intro | exact vW | with_reducible refine And.intro ?_ ?_)
        all_goals exact Chk.mk ⟨rfl, fun i hi => by match i, hi with | 0, _ => rfl⟩
      · repeat' ((conv => whnf); first | with_reducible exact True.intro | exact vW | with_reducible refine And.intro ?_ ?_)
    · repeat' ((conv => whnf); first | refine vA ?_ | with_reducible first | refine vS ?_ | refine vR ?_ | refine vB ?_ | refine br_nt ?_ | refine br_tt ?_ | refine br_ff ?_ | refine vP ?_ | refine vQ ?_ | refine vT ?_ | refine vF ?_ | refine br_and ?_ | refine br_or ?_ | refine br_d (fun _ => ?_) fun _ => ?_ | refine vM (fun _ => ?_) fun _ => ?_)
      refine ⟨_, _, [some 0], [], rfl, rfl, ?_, ?_, h [⟨0, 0, 1⟩, ⟨0, 0, 1⟩] p9 (by omega) (by omega) (by decide) (by simp [Mark.i64, i64r])⟩
      · repeat' ((conv => whnf); first | with_reducible exact True.intro | exact vW | with_reducible refine And.intro ?_ ?_)
        all_goals exact Chk.mk ⟨rfl, fun i hi => by match i, hi with | 0, _ => rfl | 1, _ => rfl⟩
      · repeat' ((conv => whnf); first | with_reducible exact True.intro | exact vW | with_reducible refine And.intro ?_ ?_)
  refine ⟨_, _, [0], [], rfl, ?_, ?_, (⟨b, p1⟩, 4), rfl, rfl, ⟨⟨h1, h2, ?_, ?_⟩, ?_⟩, ?_⟩
  · repeat' ((conv => whnf); first | with_reducible exact True.intro | exact vW | with_reducible refine And.intro ?_ ?_)
    try exact Chk.mk (by rw [pw_sh (by assumption)])
  · repeat' ((conv => whnf); first | with_reducible exact True.intro | exact vW | with_reducible refine And.intro ?_ ?_)
  · dsimp only; omega
  · dsimp only; omega
  · unfold i64r; dsimp only; omega
  intro k1 p2 a0 a1 a2
  dsimp only at a0 a1 a2
  repeat' ((conv => whnf); first | refine vA ?_ | with_reducible first | refine vS ?_ | refine vR ?_ | refine vB ?_ | refine br_nt ?_ | refine br_tt ?_ | refine br_ff ?_ | refine vP ?_ | refine vQ ?_ | refine vT ?_ | refine vF ?_ | refine br_and ?_ | refine br_or ?_ | refine br_d (fun _ => ?_) fun _ => ?_ | refine vM (fun _ => ?_) fun _ => ?_)
  refine Lp.mk ⟨List (List Mark) × Int × Int, fun x => [(0, .ptr 0 0), (4, .ptr 1 0), (7, .row 2 1 0 x.1.length), (8, .int .i64 x.2.1)],
    fun x => [rdO b x.2.2, .box [.int .i64 hp, slI bs], .row 1 x.1.length fun j => encP (x.1.getD j [])],
    fun x => 0 ≤ x.2.1 ∧ x.2.1 + x.1.length = 1 + k1 ∧ x.2.2 = p2 + 2 * x.1.length ∧ sumL x.1 = x.1.length ∧ ∀ l ∈ x.1, ∀ m ∈ l, m.i64, fun x => x.2.1.toNat, ⟨([], 1 + k1, p2), ⟨by show 0 ≤ 1 + k1; omega, by simp, by simp, rfl, by simp⟩, ⟨⟨[some 0, some 1, none], [], rfl, rfl, ?_, ?_⟩⟩⟩, ?_⟩
  · repeat' ((conv => whnf); first | with_reducible exact True.intro | exact vW | with_reducible refine And.intro ?_ ?_)
  · repeat' ((conv => whnf); first | with_reducible exact True.intro | exact vW | with_reducible refine And.intro ?_ ?_)
  rintro ⟨P, j, q⟩ ⟨i1, i2, i3, i4, i5⟩
  dsimp only at i1 i2 i3 i4 i5 ⊢
  repeat' ((conv => whnf); first | refine vA ?_ | with_reducible first | refine vS ?_ | refine vR ?_ | refine vB ?_ | refine br_nt ?_ | refine br_tt ?_ | refine br_ff ?_ | refine vP ?_ | refine vQ ?_ | refine vT ?_ | refine vF ?_ | refine br_and ?_ | refine br_or ?_ | refine br_d (fun _ => ?_) fun _ => ?_ | refine vM (fun _ => ?_) fun _ => ?_)
  · refine ⟨_, _, [0], [], rfl, ?_, ?_, (⟨b, q⟩, bs.length), rfl, rfl, ⟨⟨h1, h2, ?_, ?_⟩, ?_⟩, ?_⟩
    · repeat' ((conv => whnf); first | with_reducible exact True.intro | exact vW | with_reducible refine And.intro ?_ ?_)
      try exact Chk.mk (by rw [pw_sh (by assumption)])
    · repeat' ((conv => whnf); first | with_reducible exact True.intro | exact vW | with_reducible refine And.intro ?_ ?_)
    · dsimp only; omega
    · dsimp only; omega
    · unfold i64r; dsimp only; omega
    intro k2 p3 c0 c1 c2
    dsimp only at c0 c1 c2
    repeat' ((conv => whnf); first | refine vA ?_ | with_reducible first | refine vS ?_ | refine vR ?_ | refine vB ?_ | refine br_nt ?_ | refine br_tt ?_ | refine br_ff ?_ | refine vP ?_ | refine vQ ?_ | refine vT ?_ | refine vF ?_ | refine br_and ?_ | refine br_or ?_ | refine br_d (fun _ => ?_) fun _ => ?_ | refine vM (fun _ => ?_) fun _ => ?_)
    have hbs := h5.2 _ (getD_mem' (l := bs) (i := k2.toNat) (d := 0) (by omega))
    refine ⟨(if 0 > bs.getD k2.toNat 0 then 0 else bs.getD k2.toNat 0), ?_, ⟨by split <;> (first | exact hbs | exact ⟨by decide, by decide⟩)⟩, ?_⟩
    · repeat' ((conv => whnf); first | with_reducible exact True.intro | exact vW | with_reducible refine And.intro ?_ ?_)
    obtain ⟨H, hH⟩ : ∃ H : Nat, heads ((if 0 > bs.getD k2.toNat 0 then 0 else bs.getD k2.toNat 0) : Int).toNat = H := ⟨_, rfl⟩
    have hH2 : H ≤ 64 := by rw [← hH]; exact heads_le _
    rw [hH]
    obtain ⟨M, hM⟩ : ∃ M : Int, M = if (1 : Int) > (H : Int) then (1 : Int) else (H : Int) := ⟨_, rfl⟩
    have hM2 : 1 ≤ M ∧ M ≤ 64 := by rw [hM]; split <;> omega
    repeat' ((conv => whnf); first | refine vA ?_ | with_reducible first | refine vS ?_ | refine vR ?_ | refine vB ?_ | refine br_nt ?_ | refine br_tt ?_ | refine br_ff ?_ | refine vP ?_ | refine vQ ?_ | refine vT ?_ | refine vF ?_ | refine br_and ?_ | refine br_or ?_ | refine br_d (fun _ => ?_) fun _ => ?_ | refine vM (fun _ => ?_) fun _ => ?_)
    refine ⟨_, _, [0], [], rfl, ?_, ?_, (⟨b, p3⟩, if (1 : Int) > (H : Int) then (1 : Int) else (H : Int)), rfl, rfl, ⟨⟨h1, h2, ?_, ?_⟩, ?_⟩, ?_⟩
    · repeat' ((conv => whnf); first | with_reducible exact True.intro | exact vW | with_reducible refine And.intro ?_ ?_)
      try exact Chk.mk (by rw [pw_sh (by assumption)])
    · repeat' ((conv => whnf); first | with_reducible exact True.intro | exact vW | with_reducible refine And.intro ?_ ?_)
    · dsimp only; omega
    · dsimp only; omega
    · unfold i64r; dsimp only; omega
    intro k3 p4 d0 d1 d2
    dsimp only at d0 d1 d2
    rw [← hM] at d0 d1
    repeat' ((conv => whnf); first | refine vA ?_ | with_reducible first | refine vS ?_ | refine vR ?_ | refine vB ?_ | refine br_nt ?_ | refine br_tt ?_ | refine br_ff ?_ | refine vP ?_ | refine vQ ?_ | refine vT ?_ | refine vF ?_ | refine br_and ?_ | refine br_or ?_ | refine br_d (fun _ => ?_) fun _ => ?_ | refine vM (fun _ => ?_) fun _ => ?_)
    refine ⟨(P ++ [[⟨0, k2, 1 + k3⟩]], j - 1, p4), ⟨by show 0 ≤ j - 1; omega, by simp; omega, by simp; omega, ?_, ?_⟩, by show (j - 1).toNat < j.toNat; omega, ⟨⟨[some 0, some 1, some 5], [], rfl, rfl, ?_, ?_⟩⟩⟩
    · dsimp only
      rw [sumL_app, i4]
      simp [sumL]
    · intro l hl m hm
      rcases List.mem_append.1 hl with hl | hl
      · exact i5 l hl m hm
      · simp at hl
        subst hl
        simp at hm
        subst hm
        unfold Mark.i64 i64r
        dsimp only
        omega
    · repeat' ((conv => whnf); first | with_reducible exact True.intro | exact vW | with_reducible refine And.intro ?_ ?_)
    · repeat' ((conv => whnf); first | with_reducible exact True.intro | exact vW | with_reducible refine And.intro ?_ ?_)
      all_goals exact Chk.mk one_ext
  · have hP : 1 ≤ P.length := by omega
    have hP2 : sumL P + P.length ≤ 8 := by omega
    have hq : q + 2 * P.length ≤ p2 + 16 := by omega
    have hq2 : p2 ≤ q := by omega
    refine Lp.mk ⟨List (List Mark) × Int, fun x => [(0, .ptr 0 0), (7, .row 1 1 0 x.1.length)],
      fun x => [rdO b x.2, .row 1 x.1.length fun j => encP (x.1.getD j [])],
      fun x => 1 ≤ x.1.length ∧ sumL x.1 + x.1.length ≤ 8 ∧ x.2 + 2 * x.1.length ≤ p2 + 16 ∧ p2 ≤ x.2 ∧ ∀ l ∈ x.1, ∀ m ∈ l, m.i64, fun x => x.1.length, ⟨(P, q), ⟨hP, hP2, hq, hq2, i5⟩, ⟨⟨[some 0, some 2], [], rfl, rfl, ?_, ?_⟩⟩⟩, ?_⟩
    · repeat' ((conv => whnf); first | with_reducible exact True.intro | exact vW | with_reducible refine And.intro ?_ ?_)
    · repeat' ((conv => whnf); first | with_reducible exact True.intro | exact vW | with_reducible refine And.intro ?_ ?_)
    clear i1 i2 i3 i4 i5 hP hP2 hq hq2
    rintro ⟨P, q⟩ ⟨i1, i2, i3, i4, i5⟩
    dsimp only at i1 i2 i3 i4 i5 ⊢
    repeat' ((conv => whnf); first | refine vA ?_ | with_reducible first | refine vS ?_ | refine vR ?_ | refine vB ?_ | refine br_nt ?_ | refine br_tt ?_ | refine br_ff ?_ | refine vP ?_ | refine vQ ?_ | refine vT ?_ | refine vF ?_ | refine br_and ?_ | refine br_or ?_ | refine br_d (fun _ => ?_) fun _ => ?_ | refine vM (fun _ => ?_) fun _ => ?_)
    · refine ⟨_, _, [0], [], rfl, ?_, ?_, (⟨b, q⟩, P.length - 1), rfl, rfl, ⟨⟨h1, h2, ?_, ?_⟩, ?_⟩, ?_⟩
      · repeat' ((conv => whnf); first | with_reducible exact True.intro | exact vW | with_reducible refine And.intro ?_ ?_)
        try exact Chk.mk (by rw [pw_sh (by assumption)])
      · repeat' ((conv => whnf); first | with_reducible exact True.intro | exact vW | with_reducible refine And.intro ?_ ?_)
      · dsimp only; omega
      · dsimp only; omega
      · unfold i64r; dsimp only; omega
      intro a p3 c0 c1 c2
      dsimp only at c0 c1 c2
      obtain ⟨A, hA⟩ : ∃ A, P.getD (0 + a.toNat) [] = A := ⟨_, rfl⟩
      obtain ⟨B, hB⟩ : ∃ B, P.getD (0 + (a + 1).toNat) [] = B := ⟨_, rfl⟩
      have mA : A ∈ P := by rw [← hA]; exact getD_mem' (by omega)
      have mB : B ∈ P := by rw [← hB]; exact getD_mem' (by omega)
      have lA : (P.getD (0 + a.toNat) []).length ≤ 8 := by rw [hA]; have := sumL_mem mA; omega
      have lB : (P.getD (0 + (a + 1).toNat) []).length ≤ 8 := by rw [hB]; have := sumL_mem mB; omega
      repeat' ((conv => whnf); first | refine vA ?_ | with_reducible first | refine vS ?_ | refine vR ?_ | refine vB ?_ | refine br_nt ?_ | refine br_tt ?_ | refine br_ff ?_ | refine vP ?_ | refine vQ ?_ | refine vT ?_ | refine vF ?_ | refine br_and ?_ | refine br_or ?_ | refine br_d (fun _ => ?_) fun _ => ?_ | refine vM (fun _ => ?_) fun _ => ?_)
      refine Dr.mk ⟨[1, 2, 3, 4, 6, 7, 8, 9, 10, 12, 0, 5, 11, 13, 14, 15, 16, 17, 18], by decide +kernel, ?_⟩
      repeat' ((conv => whnf); first | refine vA ?_ | with_reducible first | refine vS ?_ | refine vR ?_ | refine vB ?_ | refine br_nt ?_ | refine br_tt ?_ | refine br_ff ?_ | refine vP ?_ | refine vQ ?_ | refine vT ?_ | refine vF ?_ | refine br_and ?_ | refine br_or ?_ | refine br_d (fun _ => ?_) fun _ => ?_ | refine vM (fun _ => ?_) fun _ => ?_)
      refine ⟨_, _, [0], [], rfl, ?_, ?_, (⟨b, p3⟩, 2), rfl, rfl, ⟨⟨h1, h2, ?_, ?_⟩, ?_⟩, ?_⟩
      · repeat' ((conv => whnf); first | with_reducible exact True.intro | exact vW | with_reducible refine And.intro ?_ ?_)
        try exact Chk.mk (by rw [pw_sh (by assumption)])
      · repeat' ((conv => whnf); first | with_reducible exact True.intro | exact vW | with_reducible refine And.intro ?_ ?_)
      · dsimp only; omega
      · dsimp only; omega
      · unfold i64r; dsimp only; omega
      intro k p4 d0 d1 d2
      dsimp only at d0 d1 d2
      repeat' ((conv => whnf); first | with_reducible refine wk_at 12 ?_ | with_reducible refine wk_at1 12 ?_ | with_reducible refine wk_at2 12 ?_ | refine vA ?_ | with_reducible first | refine vS ?_ | refine vR ?_ | refine vB ?_ | refine br_nt ?_ | refine br_tt ?_ | refine br_ff ?_ | refine vP ?_ | refine vQ ?_ | refine vT ?_ | refine vF ?_ | refine br_and ?_ | refine br_or ?_ | refine br_d (fun _ => ?_) fun _ => ?_ | refine vM (fun _ => ?_) fun _ => ?_)
      refine ⟨Wk.go [(0, .ptr 0 0), (7, .row 1 1 0 P.length), (10, .int .i64 a), (11, .row 2 3 0 (P.getD (0 + a.toNat) [] ++ P.getD (0 + (a + 1).toNat) [] ++ [(⟨1 + k, 0, 0⟩ : Mark)]).length)]
        [rdO b p4, .row 1 P.length fun j => encP (P.getD j []), .row 3 (P.getD (0 + a.toNat) [] ++ P.getD (0 + (a + 1).toNat) [] ++ [(⟨1 + k, 0, 0⟩ : Mark)]).length fun j => encM ((P.getD (0 + a.toNat) [] ++ P.getD (0 + (a + 1).toNat) [] ++ [(⟨1 + k, 0, 0⟩ : Mark)]).getD j default)] ⟨⟨[some 0, some 1, some 5], [], rfl, rfl, ?_, ?_⟩⟩ ?_⟩
      · repeat' ((conv => whnf); first | with_reducible exact True.intro | exact vW | with_reducible refine And.intro ?_ ?_)
        all_goals exact Chk.mk ⟨rfl, three_ext.1⟩
      · repeat' ((conv => whnf); first | with_reducible exact True.intro | exact vW | with_reducible refine And.intro ?_ ?_)
        all_goals exact Chk.mk three_ext
      rw [hA] at lA
      rw [hB] at lB
      rw [hA, hB]
      obtain ⟨T, hT⟩ : ∃ T, A ++ B ++ [(⟨1 + k, 0, 0⟩ : Mark)] = T := ⟨_, rfl⟩
      have lT : T.length = A.length + B.length + 1 := by rw [← hT]; simp; omega
      rw [hT]
      repeat' ((conv => whnf); first | refine vA ?_ | with_reducible first | refine vS ?_ | refine vR ?_ | refine vB ?_ | refine br_nt ?_ | refine br_tt ?_ | refine br_ff ?_ | refine vP ?_ | refine vQ ?_ | refine vT ?_ | refine vF ?_ | refine br_and ?_ | refine br_or ?_ | refine br_d (fun _ => ?_) fun _ => ?_ | refine vM (fun _ => ?_) fun _ => ?_)
      have hm := sumL_take_drop P a.toNat (by omega)
      have hA' : P.getD a.toNat [] = A := by rw [← hA, Nat.zero_add]
      have hB' : P.getD (a.toNat + 1) [] = B := by rw [← hB, Nat.zero_add, show (a + 1).toNat = a.toNat + 1 by omega]
      rw [hA', hB', show a.toNat + 2 = (a + 2).toNat by omega] at hm
      refine ⟨(P.take a.toNat ++ [T] ++ P.drop (a + 2).toNat, p4), ⟨?_, ?_, ?_, by show p2 ≤ p4; omega, ?_⟩, ?_, ⟨⟨[some 0, some 6], [], rfl, rfl, ?_, ?_⟩⟩⟩
      · simp; omega
      · dsimp only
        rw [sumL_app, sumL_app]
        simp [sumL]
        omega
      · simp; omega
      · intro l hl m hm
        simp only [List.mem_append, List.mem_singleton] at hl
        rcases hl with (hl | rfl) | hl
        · exact i5 l (List.mem_of_mem_take hl) m hm
        · rw [← hT] at hm
          simp only [List.mem_append, List.mem_singleton] at hm
          rcases hm with (hm | hm) | rfl
          · exact i5 A mA m hm
          · exact i5 B mB m hm
          · unfold Mark.i64 i64r; dsimp only; omega
        · exact i5 l (List.mem_of_mem_drop hl) m hm
      · simp; omega
      · repeat' ((conv => whnf); first | with_reducible exact True.intro | exact vW | with_reducible refine And.intro ?_ ?_)
        all_goals exact Chk.mk ⟨rfl, (merge_ext (by omega) (by omega)).1⟩
      · repeat' ((conv => whnf); first | with_reducible exact True.intro | exact vW | with_reducible refine And.intro ?_ ?_)
        all_goals exact Chk.mk (merge_ext (by omega) (by omega))
    · have hl := sumL_mem (getD_mem' (l := P) (i := 0) (d := []) (by omega))
      repeat' ((conv => whnf); first | refine vA ?_ | with_reducible first | refine vS ?_ | refine vR ?_ | refine vB ?_ | refine br_nt ?_ | refine br_tt ?_ | refine br_ff ?_ | refine vP ?_ | refine vQ ?_ | refine vT ?_ | refine vF ?_ | refine br_and ?_ | refine br_or ?_ | refine br_d (fun _ => ?_) fun _ => ?_ | refine vM (fun _ => ?_) fun _ => ?_)
      refine ⟨_, _, [some 0], [], rfl, rfl, ?_, ?_, h (P.getD 0 []) q (by omega) (by omega) (by omega) (i5 _ (getD_mem' (by omega)))⟩
      · repeat' ((conv => whnf); first | with_reducible exact True.intro | exact vW | with_reducible refine And.intro ?_ ?_)
      · repeat' ((conv => whnf); first | with_reducible exact True.intro | exact vW | with_reducible refine And.intro ?_ ?_)
end Go.Proofs.Ytbbgojaloebknaa.Vc
