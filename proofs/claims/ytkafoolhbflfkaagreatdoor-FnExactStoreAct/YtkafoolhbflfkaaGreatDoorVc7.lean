/- Part ZQ: terms that are drawn. -/
import Derived.Test.YtkafoolhbflfkaaGreatDoorVc6
section
namespace Go.Proofs.YtkafoolhbflfkaaGreatDoor.Vc
open Go.Proofs
set_option maxRecDepth 10000
set_option maxHeartbeats 4000000
def encP (l : List Mark) : List AV := [slM l]
def sumL : List (List Mark) → Nat
 |[] => 0
 |l :: r => l.length + sumL r
theorem sumL_app : ∀ a b : List (List Mark), sumL (a ++ b) = sumL a + sumL b
 |[], b => by simp [sumL]
 |x :: a, b => by simp only [List.cons_append, sumL, sumL_app a b]; omega
theorem sumL_mem {l : List Mark} : ∀ {P : List (List Mark)}, l ∈ P → l.length ≤ sumL P
 |x :: P, h => by
  rcases List.mem_cons.1 h with rfl | h
  ·simp only [sumL]; omega
  ·have := sumL_mem h; simp only [sumL]; omega
structure Tx where
 r : Rd
 h : House
 n : Int
theorem app_extG {α : Type} (enc : α → List AV) (d : α) {l : List α} {c : α} {g : Nat → List AV} (hg : g 0 = enc c) : (l ++ [c]).length = l.length + 1 ∧ ∀ j, j < (l ++ [c]).length → enc ((l ++ [c]).getD j d) = appF l.length (fun j => enc (l.getD j d)) g j := by
 refine ⟨by simp, fun j hj => ?_⟩
 simp only [List.length_append, List.length_cons, List.length_nil] at hj
 unfold appF
 rw [List.getD_eq_getElem?_getD, List.getElem?_append]
 cases hb : Nat.blt j l.length with
 |true =>
  have h1 : j < l.length := Nat.le_of_ble_eq_true hb
  rw [if_pos h1, ← List.getD_eq_getElem?_getD]
  rfl
 |false =>
  have : ¬ j < l.length := fun h => by
   have : Nat.blt j l.length = true := Nat.ble_eq_true_of_le h
   rw [this] at hb; cases hb
  have : j = l.length := by omega
  subst this
  rw [if_neg (by omega)]
  simp [hg]
theorem one_ext {l : List (List Mark)} {x y z : Int} : (l ++ [[(⟨x, y, z⟩ : Mark)]]).length = l.length + 1 ∧ ∀ j, j < (l ++ [[(⟨x, y, z⟩ : Mark)]]).length → encP ((l ++ [[(⟨x, y, z⟩ : Mark)]]).getD j []) = appF l.length (fun j => encP (l.getD j []))
  (fun i => (fun i => [[AV.sl 3 1 fun i => (fun i => [[AV.int .i64 x, AV.int .i64 y, AV.int .i64 z]].getD i [AV.int .i64 0, AV.int .i64 0, AV.int .i64 0]) (0 + i)]].getD i [AV.nils]) (0 + i)) j := by
 refine app_extG encP [] ?_
 have e : (fun i => (fun i => [[AV.int .i64 x, AV.int .i64 y, AV.int .i64 z]].getD i [AV.int .i64 0, AV.int .i64 0, AV.int .i64 0]) (0 + i)) = fun i => encM (([⟨x, y, z⟩] : List Mark).getD i default) := by
  funext i
  simp only [Nat.zero_add]
  match i with
  |0 => rfl
  |i + 1 => rfl
 rw [e]
 rfl
theorem appF_enc {α : Type} (enc : α → List AV) (d : α) (l r : List α) : appF l.length (fun i => enc (l.getD i d)) (fun i => enc (r.getD i d)) = fun i => enc ((l ++ r).getD i d) := by
 funext i
 unfold appF
 rw [List.getD_eq_getElem?_getD (l := l ++ r), List.getElem?_append]
 cases hb : Nat.blt i l.length with
 |true =>
  have h1 : i < l.length := Nat.le_of_ble_eq_true hb
  rw [if_pos h1, ← List.getD_eq_getElem?_getD]
  rfl
 |false =>
  have : ¬ i < l.length := fun h => by
   have : Nat.blt i l.length = true := Nat.ble_eq_true_of_le h
   rw [this] at hb; cases hb
  rw [if_neg this, ← List.getD_eq_getElem?_getD]
  rfl
theorem lit1 {x y z : Int} : (fun i => (fun i => [[AV.int .i64 x, AV.int .i64 y, AV.int .i64 z]].getD i [AV.int .i64 0, AV.int .i64 0, AV.int .i64 0]) (0 + i)) = fun i => encM (([⟨x, y, z⟩] : List Mark).getD i default) := by
 funext i
 simp only [Nat.zero_add]
 match i with
 |0 => rfl
 |i + 1 => rfl
theorem three_ext {A B : List Mark} {x y z : Int} : (A ++ B ++ [(⟨x, y, z⟩ : Mark)]).length = A.length + B.length + 1 ∧ ∀ j, j < (A ++ B ++ [(⟨x, y, z⟩ : Mark)]).length → encM ((A ++ B ++ [(⟨x, y, z⟩ : Mark)]).getD j default) =
  appF (A.length + B.length) (appF A.length (fun i => encM (A.getD i default)) fun i => encM (B.getD i default)) (fun i => (fun i => [[AV.int .i64 x, AV.int .i64 y, AV.int .i64 z]].getD i [AV.int .i64 0, AV.int .i64 0, AV.int .i64 0]) (0 + i)) j := by
 refine ⟨by simp; omega, fun j _ => ?_⟩
 rw [lit1, appF_enc, show A.length + B.length = (A ++ B).length by simp, appF_enc]
theorem getD_take_app {α : Type} {l r : List α} {n i : Nat} {d : α} (hn : n ≤ l.length) (hi : i < n) : (l.take n ++ r).getD i d = l.getD i d := by
 rw [List.getD_eq_getElem?_getD, List.getElem?_append_left (by rw [List.length_take]; omega), List.getElem?_take_of_lt hi, ← List.getD_eq_getElem?_getD]
theorem merge_ext {P : List (List Mark)} {a c : Nat} {T : List Mark} (h : c ≤ P.length) (ha : a ≤ P.length) : (P.take a ++ [T] ++ P.drop c).length = a + 1 + (P.length - c) ∧ ∀ j, j < (P.take a ++ [T] ++ P.drop c).length → encP ((P.take a ++ [T] ++ P.drop c).getD j []) =
  appF (a + 1) (appF a (fun i => (fun j => encP (P.getD j [])) (0 + 0 + i)) fun i => (fun i => [[AV.sl 3 T.length fun i => (fun j => encM (T.getD j default)) (0 + i)]].getD i [AV.nils]) (0 + i)) (fun i => (fun j => encP (P.getD j [])) (0 + c + i)) j := by
 have hl : (P.take a).length = a := by rw [List.length_take]; omega
 refine ⟨by simp; omega, fun j hj => ?_⟩
 have e1 : (fun i => (fun j => encM (T.getD j default)) (0 + i)) = fun j => encM (T.getD j default) := by funext i; rw [Nat.zero_add]
 rw [e1]
 unfold appF
 cases hb : Nat.blt j (a + 1) with
 |true =>
  have h1 : j < a + 1 := Nat.le_of_ble_eq_true hb
  cases hb2 : Nat.blt j a with
  |true =>
   have h2 : j < a := Nat.le_of_ble_eq_true hb2
   rw [List.append_assoc, getD_take_app ha h2]
   show _ = encP (P.getD (0 + 0 + j) [])
   rw [show 0 + 0 + j = j by omega]
  |false =>
   have h2 : j = a := by
    rcases Nat.lt_or_ge j a with h | h
    ·have : Nat.blt j a = true := Nat.ble_eq_true_of_le h
     rw [this] at hb2; cases hb2
    ·omega
   subst h2
   rw [List.append_assoc, List.getD_eq_getElem?_getD, List.getElem?_append_right (by omega), hl]
   simp [encP]
 |false =>
  have h1 : a + 1 ≤ j := by
   rcases Nat.lt_or_ge j (a + 1) with h | h
   ·have : Nat.blt j (a + 1) = true := Nat.ble_eq_true_of_le h
    rw [this] at hb; cases hb
   ·exact h
  show _ = encP (P.getD (0 + c + (j - (a + 1))) [])
  rw [List.getD_eq_getElem?_getD, List.getElem?_append_right (by simp [hl]; omega), List.getElem?_drop, ← List.getD_eq_getElem?_getD]
  congr 2
  simp [hl]
theorem sumL_take_drop : ∀ (P : List (List Mark)) (a : Nat), a + 1 < P.length → sumL (P.take a) + sumL (P.drop (a + 2)) + (P.getD a []).length + (P.getD (a + 1) []).length = sumL P
 |[], a, h => by simp at h
 |[_], a, h => by simp at h
 |x :: y :: P, 0, _ => by simp [sumL]; omega
 |x :: P, a + 1, h => by
  have := sumL_take_drop P a (by simpa using h)
  simp only [List.take_succ_cons, List.drop_succ_cons, sumL, List.getD_cons_succ]
  omega
def C60 : GC := conG (X := Tx) (fun x => [.ptr 0 0, enH x.h, .int .i64 x.n]) (fun x => [.box [slB x.r.b, .int .i64 x.r.p]]) (fun x => x.r.okn 600000000 ∧ x.h.i64 ∧ x.h.bs.length ≤ 8 ∧ i64r x.n) fun x K => ∀ (t : List Mark) (p' : Int), x.r.p ≤ p' → p' ≤ x.r.p + 40 → t.length ≤ 9 → (∀ m ∈ t, m.i64) → K (slM t) [.box [slB x.r.b, .int .i64 p']]
theorem F60 : GG 96 C60 := by
 refine fitG [(127, C48)] (by simp only [List.mem_cons, List.not_mem_nil, or_false]; rintro _ rfl <;> first | exact F48) [(64, C52), (89, C53)] (by simp only [List.mem_cons, List.not_mem_nil, or_false]; rintro _ (rfl | rfl) <;> first | exact F52 | exact F53) Tryz.f96 ⟨rfl, by decide +kernel, by decide +kernel⟩ (by intro x K K2 hk h; (try dsimp only at h ⊢); intros; apply hk; first | exact h | (apply h <;> assumption)) ?_
 rintro ⟨⟨b, p⟩, ⟨hp, bs⟩, n⟩ K ⟨⟨h1, h2, h3, h4⟩, h5, h6, h7⟩ h
 refine ⟨Nat.le_of_ble_eq_true rfl, ?_⟩
 dsimp only [enH] at h h1 h2 h3 h4 h5 h6 h7 ⊢
 repeat' ((conv=>whnf);first|refine vA ?_|with_reducible first|refine v8 ?_|refine Sp.mk ?_ ?_|refine vS ?_|refine vR ?_|refine vB ?_|refine br_nt ?_|refine br_tt ?_|refine br_ff ?_|refine vP ?_|refine vQ ?_|refine vT ?_|refine vF ?_|refine br_and ?_|refine br_or ?_|refine br_d (fun _=>?_) fun _=>?_|refine vM (fun _=>?_) fun _=>?_)
 ·refine ⟨_, _, [0], [], rfl, ?_, ?_, (⟨b, p⟩, 4), rfl, rfl, ⟨⟨h1, h2, ?_, ?_⟩, ?_⟩, ?_⟩
  ·repeat' ((conv=>whnf);first|with_reducible exact True.intro|exact vW|with_reducible refine And.intro ?_ ?_)
   try exact Chk.mk (by rw [pw_sh (by assumption)])
  ·repeat' ((conv=>whnf);first|with_reducible exact True.intro|exact vW|with_reducible refine And.intro ?_ ?_)
  ·dsimp only; omega
  ·dsimp only; omega
  ·unfold i64r; dsimp only; omega
  intro k9 p9 z0 z1 z2
  dsimp only at z0 z1 z2
  rcases (show k9 = 0 ∨ k9 = 1 ∨ k9 = 2 ∨ k9 = 3 by omega) with rfl | rfl | rfl | rfl
  ·repeat' ((conv=>whnf);first|refine vA ?_|with_reducible first|refine v8 ?_|refine Sp.mk ?_ ?_|refine vS ?_|refine vR ?_|refine vB ?_|refine br_nt ?_|refine br_tt ?_|refine br_ff ?_|refine vP ?_|refine vQ ?_|refine vT ?_|refine vF ?_|refine br_and ?_|refine br_or ?_|refine br_d (fun _=>?_) fun _=>?_|refine vM (fun _=>?_) fun _=>?_)
   refine ⟨_, _, [some 0], [], rfl, rfl, ?_, ?_, h [] p9 (by omega) (by omega) (by decide) (by simp)⟩
   ·repeat' ((conv=>whnf);first|with_reducible exact True.intro|exact vW|with_reducible refine And.intro ?_ ?_)
   ·repeat' ((conv=>whnf);first|with_reducible exact True.intro|exact vW|with_reducible refine And.intro ?_ ?_)
  ·repeat' ((conv=>whnf);first|refine vA ?_|with_reducible first|refine v8 ?_|refine Sp.mk ?_ ?_|refine vS ?_|refine vR ?_|refine vB ?_|refine br_nt ?_|refine br_tt ?_|refine br_ff ?_|refine vP ?_|refine vQ ?_|refine vT ?_|refine vF ?_|refine br_and ?_|refine br_or ?_|refine br_d (fun _=>?_) fun _=>?_|refine vM (fun _=>?_) fun _=>?_)
   refine ⟨_, _, [some 0], [], rfl, rfl, ?_, ?_, h [⟨1, 0, 0⟩] p9 (by omega) (by omega) (by decide) (by simp [Mark.i64, i64r])⟩
   ·repeat' ((conv=>whnf);first|with_reducible exact True.intro|exact vW|with_reducible refine And.intro ?_ ?_)
    all_goals exact Chk.mk ⟨rfl, fun i hi => by match i, hi with | 0, _ => rfl⟩
   ·repeat' ((conv=>whnf);first|with_reducible exact True.intro|exact vW|with_reducible refine And.intro ?_ ?_)
  ·repeat' ((conv=>whnf);first|refine vA ?_|with_reducible first|refine v8 ?_|refine Sp.mk ?_ ?_|refine vS ?_|refine vR ?_|refine vB ?_|refine br_nt ?_|refine br_tt ?_|refine br_ff ?_|refine vP ?_|refine vQ ?_|refine vT ?_|refine vF ?_|refine br_and ?_|refine br_or ?_|refine br_d (fun _=>?_) fun _=>?_|refine vM (fun _=>?_) fun _=>?_)
   refine ⟨_, _, [some 0], [], rfl, rfl, ?_, ?_, h [⟨0, 3, 7⟩] p9 (by omega) (by omega) (by decide) (by simp [Mark.i64, i64r])⟩
   ·repeat' ((conv=>whnf);first|with_reducible exact True.intro|exact vW|with_reducible refine And.intro ?_ ?_)
    all_goals exact Chk.mk ⟨rfl, fun i hi => by match i, hi with | 0, _ => rfl⟩
   ·repeat' ((conv=>whnf);first|with_reducible exact True.intro|exact vW|with_reducible refine And.intro ?_ ?_)
  ·repeat' ((conv=>whnf);first|refine vA ?_|with_reducible first|refine v8 ?_|refine Sp.mk ?_ ?_|refine vS ?_|refine vR ?_|refine vB ?_|refine br_nt ?_|refine br_tt ?_|refine br_ff ?_|refine vP ?_|refine vQ ?_|refine vT ?_|refine vF ?_|refine br_and ?_|refine br_or ?_|refine br_d (fun _=>?_) fun _=>?_|refine vM (fun _=>?_) fun _=>?_)
   refine ⟨_, _, [some 0], [], rfl, rfl, ?_, ?_, h [⟨0, 0, 1⟩, ⟨0, 0, 1⟩] p9 (by omega) (by omega) (by decide) (by simp [Mark.i64, i64r])⟩
   ·repeat' ((conv=>whnf);first|with_reducible exact True.intro|exact vW|with_reducible refine And.intro ?_ ?_)
    all_goals exact Chk.mk ⟨rfl, fun i hi => by match i, hi with | 0, _ => rfl | 1, _ => rfl⟩
   ·repeat' ((conv=>whnf);first|with_reducible exact True.intro|exact vW|with_reducible refine And.intro ?_ ?_)
 refine ⟨_, _, [0], [], rfl, ?_, ?_, (⟨b, p⟩, n), rfl, rfl, ⟨⟨h1, h2, ?_, ?_⟩, h7⟩, ?_⟩
 ·repeat' ((conv=>whnf);first|with_reducible exact True.intro|exact vW|with_reducible refine And.intro ?_ ?_)
 ·repeat' ((conv=>whnf);first|with_reducible exact True.intro|exact vW|with_reducible refine And.intro ?_ ?_)
 ·dsimp only; omega
 ·dsimp only; omega
 intro v p1 g1 g2
 dsimp only at g1 g2
 repeat' ((conv=>whnf);first|refine vA ?_|with_reducible first|refine v8 ?_|refine Sp.mk ?_ ?_|refine vS ?_|refine vR ?_|refine vB ?_|refine br_nt ?_|refine br_tt ?_|refine br_ff ?_|refine vP ?_|refine vQ ?_|refine vT ?_|refine vF ?_|refine br_and ?_|refine br_or ?_|refine br_d (fun _=>?_) fun _=>?_|refine vM (fun _=>?_) fun _=>?_)
 ·refine ⟨_, _, [0], [], rfl, ?_, ?_, (⟨b, p1⟩, 4), rfl, rfl, ⟨⟨h1, h2, ?_, ?_⟩, ?_⟩, ?_⟩
  ·repeat' ((conv=>whnf);first|with_reducible exact True.intro|exact vW|with_reducible refine And.intro ?_ ?_)
   try exact Chk.mk (by rw [pw_sh (by assumption)])
  ·repeat' ((conv=>whnf);first|with_reducible exact True.intro|exact vW|with_reducible refine And.intro ?_ ?_)
  ·dsimp only; omega
  ·dsimp only; omega
  ·unfold i64r; dsimp only; omega
  intro k9 p9 z0 z1 z2
  dsimp only at z0 z1 z2
  rcases (show k9 = 0 ∨ k9 = 1 ∨ k9 = 2 ∨ k9 = 3 by omega) with rfl | rfl | rfl | rfl
  ·repeat' ((conv=>whnf);first|refine vA ?_|with_reducible first|refine v8 ?_|refine Sp.mk ?_ ?_|refine vS ?_|refine vR ?_|refine vB ?_|refine br_nt ?_|refine br_tt ?_|refine br_ff ?_|refine vP ?_|refine vQ ?_|refine vT ?_|refine vF ?_|refine br_and ?_|refine br_or ?_|refine br_d (fun _=>?_) fun _=>?_|refine vM (fun _=>?_) fun _=>?_)
   refine ⟨_, _, [some 0], [], rfl, rfl, ?_, ?_, h [] p9 (by omega) (by omega) (by decide) (by simp)⟩
   ·repeat' ((conv=>whnf);first|with_reducible exact True.intro|exact vW|with_reducible refine And.intro ?_ ?_)
   ·repeat' ((conv=>whnf);first|with_reducible exact True.intro|exact vW|with_reducible refine And.intro ?_ ?_)
  ·repeat' ((conv=>whnf);first|refine vA ?_|with_reducible first|refine v8 ?_|refine Sp.mk ?_ ?_|refine vS ?_|refine vR ?_|refine vB ?_|refine br_nt ?_|refine br_tt ?_|refine br_ff ?_|refine vP ?_|refine vQ ?_|refine vT ?_|refine vF ?_|refine br_and ?_|refine br_or ?_|refine br_d (fun _=>?_) fun _=>?_|refine vM (fun _=>?_) fun _=>?_)
   refine ⟨_, _, [some 0], [], rfl, rfl, ?_, ?_, h [⟨1, 0, 0⟩] p9 (by omega) (by omega) (by decide) (by simp [Mark.i64, i64r])⟩
   ·repeat' ((conv=>whnf);first|with_reducible exact True.intro|exact vW|with_reducible refine And.intro ?_ ?_)
    all_goals exact Chk.mk ⟨rfl, fun i hi => by match i, hi with | 0, _ => rfl⟩
   ·repeat' ((conv=>whnf);first|with_reducible exact True.intro|exact vW|with_reducible refine And.intro ?_ ?_)
  ·repeat' ((conv=>whnf);first|refine vA ?_|with_reducible first|refine v8 ?_|refine Sp.mk ?_ ?_|refine vS ?_|refine vR ?_|refine vB ?_|refine br_nt ?_|refine br_tt ?_|refine br_ff ?_|refine vP ?_|refine vQ ?_|refine vT ?_|refine vF ?_|refine br_and ?_|refine br_or ?_|refine br_d (fun _=>?_) fun _=>?_|refine vM (fun _=>?_) fun _=>?_)
   refine ⟨_, _, [some 0], [], rfl, rfl, ?_, ?_, h [⟨0, 3, 7⟩] p9 (by omega) (by omega) (by decide) (by simp [Mark.i64, i64r])⟩
   ·repeat' ((conv=>whnf);first|with_reducible exact True.intro|exact vW|with_reducible refine And.intro ?_ ?_)
    all_goals exact Chk.mk ⟨rfl, fun i hi => by match i, hi with | 0, _ => rfl⟩
   ·repeat' ((conv=>whnf);first|with_reducible exact True.intro|exact vW|with_reducible refine And.intro ?_ ?_)
  ·repeat' ((conv=>whnf);first|refine vA ?_|with_reducible first|refine v8 ?_|refine Sp.mk ?_ ?_|refine vS ?_|refine vR ?_|refine vB ?_|refine br_nt ?_|refine br_tt ?_|refine br_ff ?_|refine vP ?_|refine vQ ?_|refine vT ?_|refine vF ?_|refine br_and ?_|refine br_or ?_|refine br_d (fun _=>?_) fun _=>?_|refine vM (fun _=>?_) fun _=>?_)
   refine ⟨_, _, [some 0], [], rfl, rfl, ?_, ?_, h [⟨0, 0, 1⟩, ⟨0, 0, 1⟩] p9 (by omega) (by omega) (by decide) (by simp [Mark.i64, i64r])⟩
   ·repeat' ((conv=>whnf);first|with_reducible exact True.intro|exact vW|with_reducible refine And.intro ?_ ?_)
    all_goals exact Chk.mk ⟨rfl, fun i hi => by match i, hi with | 0, _ => rfl | 1, _ => rfl⟩
   ·repeat' ((conv=>whnf);first|with_reducible exact True.intro|exact vW|with_reducible refine And.intro ?_ ?_)
 refine ⟨_, _, [0], [], rfl, ?_, ?_, (⟨b, p1⟩, 4), rfl, rfl, ⟨⟨h1, h2, ?_, ?_⟩, ?_⟩, ?_⟩
 ·repeat' ((conv=>whnf);first|with_reducible exact True.intro|exact vW|with_reducible refine And.intro ?_ ?_)
  try exact Chk.mk (by rw [pw_sh (by assumption)])
 ·repeat' ((conv=>whnf);first|with_reducible exact True.intro|exact vW|with_reducible refine And.intro ?_ ?_)
 ·dsimp only; omega
 ·dsimp only; omega
 ·unfold i64r; dsimp only; omega
 intro k1 p2 a0 a1 a2
 dsimp only at a0 a1 a2
 repeat' ((conv=>whnf);first|refine vA ?_|with_reducible first|refine v8 ?_|refine Sp.mk ?_ ?_|refine vS ?_|refine vR ?_|refine vB ?_|refine br_nt ?_|refine br_tt ?_|refine br_ff ?_|refine vP ?_|refine vQ ?_|refine vT ?_|refine vF ?_|refine br_and ?_|refine br_or ?_|refine br_d (fun _=>?_) fun _=>?_|refine vM (fun _=>?_) fun _=>?_)
 refine Lp.mk ⟨List (List Mark) × Int × Int, fun x => [(0, .ptr 0 0), (4, .ptr 1 0), (7, .row 2 1 0 x.1.length), (8, .int .i64 x.2.1)],
  fun x => [rdO b x.2.2, .box [.int .i64 hp, slI bs], .row 1 x.1.length fun j => encP (x.1.getD j [])],
  fun x => 0 ≤ x.2.1 ∧ x.2.1 + x.1.length = 1 + k1 ∧ x.2.2 = p2 + 2 * x.1.length ∧ sumL x.1 = x.1.length ∧ ∀ l ∈ x.1, ∀ m ∈ l, m.i64, fun x => x.2.1.toNat, ⟨([], 1 + k1, p2), ⟨by show 0 ≤ 1 + k1; omega, by simp, by simp, rfl, by simp⟩, ⟨⟨[some 0, some 1, none], [], rfl, rfl, ?_, ?_⟩⟩⟩, ?_⟩
 ·repeat' ((conv=>whnf);first|with_reducible exact True.intro|exact vW|with_reducible refine And.intro ?_ ?_)
 ·repeat' ((conv=>whnf);first|with_reducible exact True.intro|exact vW|with_reducible refine And.intro ?_ ?_)
 rintro ⟨P, j, q⟩ ⟨i1, i2, i3, i4, i5⟩
 dsimp only at i1 i2 i3 i4 i5 ⊢
 repeat' ((conv=>whnf);first|refine vA ?_|with_reducible first|refine v8 ?_|refine Sp.mk ?_ ?_|refine vS ?_|refine vR ?_|refine vB ?_|refine br_nt ?_|refine br_tt ?_|refine br_ff ?_|refine vP ?_|refine vQ ?_|refine vT ?_|refine vF ?_|refine br_and ?_|refine br_or ?_|refine br_d (fun _=>?_) fun _=>?_|refine vM (fun _=>?_) fun _=>?_)
 ·refine ⟨_, _, [0], [], rfl, ?_, ?_, (⟨b, q⟩, bs.length), rfl, rfl, ⟨⟨h1, h2, ?_, ?_⟩, ?_⟩, ?_⟩
  ·repeat' ((conv=>whnf);first|with_reducible exact True.intro|exact vW|with_reducible refine And.intro ?_ ?_)
   try exact Chk.mk (by rw [pw_sh (by assumption)])
  ·repeat' ((conv=>whnf);first|with_reducible exact True.intro|exact vW|with_reducible refine And.intro ?_ ?_)
  ·dsimp only; omega
  ·dsimp only; omega
  ·unfold i64r; dsimp only; omega
  intro k2 p3 c0 c1 c2
  dsimp only at c0 c1 c2
  repeat' ((conv=>whnf);first|refine vA ?_|with_reducible first|refine v8 ?_|refine Sp.mk ?_ ?_|refine vS ?_|refine vR ?_|refine vB ?_|refine br_nt ?_|refine br_tt ?_|refine br_ff ?_|refine vP ?_|refine vQ ?_|refine vT ?_|refine vF ?_|refine br_and ?_|refine br_or ?_|refine br_d (fun _=>?_) fun _=>?_|refine vM (fun _=>?_) fun _=>?_)
  have hbs := h5.2 _ (getD_mem' (l := bs) (i := k2.toNat) (d := 0) (by omega))
  refine ⟨(if 0 > bs.getD k2.toNat 0 then 0 else bs.getD k2.toNat 0), ?_, ⟨by split <;> (first | exact hbs | exact ⟨by decide, by decide⟩)⟩, ?_⟩
  ·repeat' ((conv=>whnf);first|with_reducible exact True.intro|exact vW|with_reducible refine And.intro ?_ ?_)
  obtain ⟨H, hH⟩ : ∃ H : Nat, heads ((if 0 > bs.getD k2.toNat 0 then 0 else bs.getD k2.toNat 0) : Int).toNat = H := ⟨_, rfl⟩
  have hH2 : H ≤ 64 := by rw [← hH]; exact heads_le _
  rw [hH]
  obtain ⟨M, hM⟩ : ∃ M : Int, M = if (1 : Int) > (H : Int) then (1 : Int) else (H : Int) := ⟨_, rfl⟩
  have hM2 : 1 ≤ M ∧ M ≤ 64 := by rw [hM]; split <;> omega
  repeat' ((conv=>whnf);first|refine vA ?_|with_reducible first|refine v8 ?_|refine Sp.mk ?_ ?_|refine vS ?_|refine vR ?_|refine vB ?_|refine br_nt ?_|refine br_tt ?_|refine br_ff ?_|refine vP ?_|refine vQ ?_|refine vT ?_|refine vF ?_|refine br_and ?_|refine br_or ?_|refine br_d (fun _=>?_) fun _=>?_|refine vM (fun _=>?_) fun _=>?_)
  refine ⟨_, _, [0], [], rfl, ?_, ?_, (⟨b, p3⟩, if (1 : Int) > (H : Int) then (1 : Int) else (H : Int)), rfl, rfl, ⟨⟨h1, h2, ?_, ?_⟩, ?_⟩, ?_⟩
  ·repeat' ((conv=>whnf);first|with_reducible exact True.intro|exact vW|with_reducible refine And.intro ?_ ?_)
   try exact Chk.mk (by rw [pw_sh (by assumption)])
  ·repeat' ((conv=>whnf);first|with_reducible exact True.intro|exact vW|with_reducible refine And.intro ?_ ?_)
  ·dsimp only; omega
  ·dsimp only; omega
  ·unfold i64r; dsimp only; omega
  intro k3 p4 d0 d1 d2
  dsimp only at d0 d1 d2
  rw [← hM] at d0 d1
  repeat' ((conv=>whnf);first|refine vA ?_|with_reducible first|refine v8 ?_|refine Sp.mk ?_ ?_|refine vS ?_|refine vR ?_|refine vB ?_|refine br_nt ?_|refine br_tt ?_|refine br_ff ?_|refine vP ?_|refine vQ ?_|refine vT ?_|refine vF ?_|refine br_and ?_|refine br_or ?_|refine br_d (fun _=>?_) fun _=>?_|refine vM (fun _=>?_) fun _=>?_)
  refine ⟨(P ++ [[⟨0, k2, 1 + k3⟩]], j - 1, p4), ⟨by show 0 ≤ j - 1; omega, by simp; omega, by simp; omega, ?_, ?_⟩, by show (j - 1).toNat < j.toNat; omega, ⟨⟨[some 0, some 1, some 5], [], rfl, rfl, ?_, ?_⟩⟩⟩
  ·dsimp only
   rw [sumL_app, i4]
   simp [sumL]
  ·intro l hl m hm
   rcases List.mem_append.1 hl with hl | hl
   ·exact i5 l hl m hm
   ·simp at hl
    subst hl
    simp at hm
    subst hm
    unfold Mark.i64 i64r
    dsimp only
    omega
  ·repeat' ((conv=>whnf);first|with_reducible exact True.intro|exact vW|with_reducible refine And.intro ?_ ?_)
  ·repeat' ((conv=>whnf);first|with_reducible exact True.intro|exact vW|with_reducible refine And.intro ?_ ?_)
   all_goals exact Chk.mk one_ext
 ·have hP : 1 ≤ P.length := by omega
  have hP2 : sumL P + P.length ≤ 8 := by omega
  have hq : q + 2 * P.length ≤ p2 + 16 := by omega
  have hq2 : p2 ≤ q := by omega
  refine Lp.mk ⟨List (List Mark) × Int, fun x => [(0, .ptr 0 0), (7, .row 1 1 0 x.1.length)],
   fun x => [rdO b x.2, .row 1 x.1.length fun j => encP (x.1.getD j [])],
   fun x => 1 ≤ x.1.length ∧ sumL x.1 + x.1.length ≤ 8 ∧ x.2 + 2 * x.1.length ≤ p2 + 16 ∧ p2 ≤ x.2 ∧ ∀ l ∈ x.1, ∀ m ∈ l, m.i64, fun x => x.1.length, ⟨(P, q), ⟨hP, hP2, hq, hq2, i5⟩, ⟨⟨[some 0, some 2], [], rfl, rfl, ?_, ?_⟩⟩⟩, ?_⟩
  ·repeat' ((conv=>whnf);first|with_reducible exact True.intro|exact vW|with_reducible refine And.intro ?_ ?_)
  ·repeat' ((conv=>whnf);first|with_reducible exact True.intro|exact vW|with_reducible refine And.intro ?_ ?_)
  clear i1 i2 i3 i4 i5 hP hP2 hq hq2
  rintro ⟨P, q⟩ ⟨i1, i2, i3, i4, i5⟩
  dsimp only at i1 i2 i3 i4 i5 ⊢
  repeat' ((conv=>whnf);first|refine vA ?_|with_reducible first|refine v8 ?_|refine Sp.mk ?_ ?_|refine vS ?_|refine vR ?_|refine vB ?_|refine br_nt ?_|refine br_tt ?_|refine br_ff ?_|refine vP ?_|refine vQ ?_|refine vT ?_|refine vF ?_|refine br_and ?_|refine br_or ?_|refine br_d (fun _=>?_) fun _=>?_|refine vM (fun _=>?_) fun _=>?_)
  ·refine ⟨_, _, [0], [], rfl, ?_, ?_, (⟨b, q⟩, P.length - 1), rfl, rfl, ⟨⟨h1, h2, ?_, ?_⟩, ?_⟩, ?_⟩
   ·repeat' ((conv=>whnf);first|with_reducible exact True.intro|exact vW|with_reducible refine And.intro ?_ ?_)
    try exact Chk.mk (by rw [pw_sh (by assumption)])
   ·repeat' ((conv=>whnf);first|with_reducible exact True.intro|exact vW|with_reducible refine And.intro ?_ ?_)
   ·dsimp only; omega
   ·dsimp only; omega
   ·unfold i64r; dsimp only; omega
   intro a p3 c0 c1 c2
   dsimp only at c0 c1 c2
   obtain ⟨A, hA⟩ : ∃ A, P.getD (0 + a.toNat) [] = A := ⟨_, rfl⟩
   obtain ⟨B, hB⟩ : ∃ B, P.getD (0 + (a + 1).toNat) [] = B := ⟨_, rfl⟩
   have mA : A ∈ P := by rw [← hA]; exact getD_mem' (by omega)
   have mB : B ∈ P := by rw [← hB]; exact getD_mem' (by omega)
   have lA : (P.getD (0 + a.toNat) []).length ≤ 8 := by rw [hA]; have := sumL_mem mA; omega
   have lB : (P.getD (0 + (a + 1).toNat) []).length ≤ 8 := by rw [hB]; have := sumL_mem mB; omega
   repeat' ((conv=>whnf);first|refine vA ?_|with_reducible first|refine v8 ?_|refine Sp.mk ?_ ?_|refine vS ?_|refine vR ?_|refine vB ?_|refine br_nt ?_|refine br_tt ?_|refine br_ff ?_|refine vP ?_|refine vQ ?_|refine vT ?_|refine vF ?_|refine br_and ?_|refine br_or ?_|refine br_d (fun _=>?_) fun _=>?_|refine vM (fun _=>?_) fun _=>?_)
   refine Dr.mk ⟨(.rd 1 (.rd 2 (.rd 3 (.rd 4 (.rd 6 (.rd 7 (.rd 8 (.rd 9 (.rd 10 (.rd 12 (.ef 0 (.ef 5 (.ef 11 (.ef 13 (.rd 14 (.rd 15 (.ef 16 (.ef 17 (.rd 18 .dn) .no) .no))) .no) .no) .no) .no))))))))))), by decide +kernel, ?_⟩
   repeat' ((conv=>whnf);first|refine vA ?_|with_reducible first|refine v8 ?_|refine Sp.mk ?_ ?_|refine vS ?_|refine vR ?_|refine vB ?_|refine br_nt ?_|refine br_tt ?_|refine br_ff ?_|refine vP ?_|refine vQ ?_|refine vT ?_|refine vF ?_|refine br_and ?_|refine br_or ?_|refine br_d (fun _=>?_) fun _=>?_|refine vM (fun _=>?_) fun _=>?_)
   refine ⟨_, _, [0], [], rfl, ?_, ?_, (⟨b, p3⟩, 2), rfl, rfl, ⟨⟨h1, h2, ?_, ?_⟩, ?_⟩, ?_⟩
   ·repeat' ((conv=>whnf);first|with_reducible exact True.intro|exact vW|with_reducible refine And.intro ?_ ?_)
    try exact Chk.mk (by rw [pw_sh (by assumption)])
   ·repeat' ((conv=>whnf);first|with_reducible exact True.intro|exact vW|with_reducible refine And.intro ?_ ?_)
   ·dsimp only; omega
   ·dsimp only; omega
   ·unfold i64r; dsimp only; omega
   intro k p4 d0 d1 d2
   dsimp only at d0 d1 d2
   repeat' ((conv=>whnf);first|with_reducible refine wk_at 12 ?_|with_reducible refine wk_at1 12 ?_|with_reducible refine wk_at2 12 ?_|refine vA ?_|with_reducible first|refine v8 ?_|refine Sp.mk ?_ ?_|refine vS ?_|refine vR ?_|refine vB ?_|refine br_nt ?_|refine br_tt ?_|refine br_ff ?_|refine vP ?_|refine vQ ?_|refine vT ?_|refine vF ?_|refine br_and ?_|refine br_or ?_|refine br_d (fun _=>?_) fun _=>?_|refine vM (fun _=>?_) fun _=>?_)
   refine ⟨Wk.go [(0, .ptr 0 0), (7, .row 1 1 0 P.length), (10, .int .i64 a), (11, .row 2 3 0 (P.getD (0 + a.toNat) [] ++ P.getD (0 + (a + 1).toNat) [] ++ [(⟨1 + k, 0, 0⟩ : Mark)]).length)]
    [rdO b p4, .row 1 P.length fun j => encP (P.getD j []), .row 3 (P.getD (0 + a.toNat) [] ++ P.getD (0 + (a + 1).toNat) [] ++ [(⟨1 + k, 0, 0⟩ : Mark)]).length fun j => encM ((P.getD (0 + a.toNat) [] ++ P.getD (0 + (a + 1).toNat) [] ++ [(⟨1 + k, 0, 0⟩ : Mark)]).getD j default)] ⟨⟨[some 0, some 1, some 5], [], rfl, rfl, ?_, ?_⟩⟩ ?_⟩
   ·repeat' ((conv=>whnf);first|with_reducible exact True.intro|exact vW|with_reducible refine And.intro ?_ ?_)
    all_goals exact Chk.mk ⟨rfl, three_ext.1⟩
   ·repeat' ((conv=>whnf);first|with_reducible exact True.intro|exact vW|with_reducible refine And.intro ?_ ?_)
    all_goals exact Chk.mk three_ext
   rw [hA] at lA
   rw [hB] at lB
   rw [hA, hB]
   obtain ⟨T, hT⟩ : ∃ T, A ++ B ++ [(⟨1 + k, 0, 0⟩ : Mark)] = T := ⟨_, rfl⟩
   have lT : T.length = A.length + B.length + 1 := by rw [← hT]; simp; omega
   rw [hT]
   repeat' ((conv=>whnf);first|refine vA ?_|with_reducible first|refine v8 ?_|refine Sp.mk ?_ ?_|refine vS ?_|refine vR ?_|refine vB ?_|refine br_nt ?_|refine br_tt ?_|refine br_ff ?_|refine vP ?_|refine vQ ?_|refine vT ?_|refine vF ?_|refine br_and ?_|refine br_or ?_|refine br_d (fun _=>?_) fun _=>?_|refine vM (fun _=>?_) fun _=>?_)
   have hm := sumL_take_drop P a.toNat (by omega)
   have hA' : P.getD a.toNat [] = A := by rw [← hA, Nat.zero_add]
   have hB' : P.getD (a.toNat + 1) [] = B := by rw [← hB, Nat.zero_add, show (a + 1).toNat = a.toNat + 1 by omega]
   rw [hA', hB', show a.toNat + 2 = (a + 2).toNat by omega] at hm
   refine ⟨(P.take a.toNat ++ [T] ++ P.drop (a + 2).toNat, p4), ⟨?_, ?_, ?_, by show p2 ≤ p4; omega, ?_⟩, ?_, ⟨⟨[some 0, some 6], [], rfl, rfl, ?_, ?_⟩⟩⟩
   ·simp; omega
   ·dsimp only
    rw [sumL_app, sumL_app]
    simp [sumL]
    omega
   ·simp; omega
   ·intro l hl m hm
    simp only [List.mem_append, List.mem_singleton] at hl
    rcases hl with (hl | rfl) | hl
    ·exact i5 l (List.mem_of_mem_take hl) m hm
    ·rw [← hT] at hm
     simp only [List.mem_append, List.mem_singleton] at hm
     rcases hm with (hm | hm) | rfl
     ·exact i5 A mA m hm
     ·exact i5 B mB m hm
     ·unfold Mark.i64 i64r; dsimp only; omega
    ·exact i5 l (List.mem_of_mem_drop hl) m hm
   ·simp; omega
   ·repeat' ((conv=>whnf);first|with_reducible exact True.intro|exact vW|with_reducible refine And.intro ?_ ?_)
    all_goals exact Chk.mk ⟨rfl, (merge_ext (by omega) (by omega)).1⟩
   ·repeat' ((conv=>whnf);first|with_reducible exact True.intro|exact vW|with_reducible refine And.intro ?_ ?_)
    all_goals exact Chk.mk (merge_ext (by omega) (by omega))
  ·have hl := sumL_mem (getD_mem' (l := P) (i := 0) (d := []) (by omega))
   repeat' ((conv=>whnf);first|refine vA ?_|with_reducible first|refine v8 ?_|refine Sp.mk ?_ ?_|refine vS ?_|refine vR ?_|refine vB ?_|refine br_nt ?_|refine br_tt ?_|refine br_ff ?_|refine vP ?_|refine vQ ?_|refine vT ?_|refine vF ?_|refine br_and ?_|refine br_or ?_|refine br_d (fun _=>?_) fun _=>?_|refine vM (fun _=>?_) fun _=>?_)
   refine ⟨_, _, [some 0], [], rfl, rfl, ?_, ?_, h (P.getD 0 []) q (by omega) (by omega) (by omega) (i5 _ (getD_mem' (by omega)))⟩
   ·repeat' ((conv=>whnf);first|with_reducible exact True.intro|exact vW|with_reducible refine And.intro ?_ ?_)
   ·repeat' ((conv=>whnf);first|with_reducible exact True.intro|exact vW|with_reducible refine And.intro ?_ ?_)
end Go.Proofs.YtkafoolhbflfkaaGreatDoor.Vc
end
section
/- Part TK: places that are drawn. -/
namespace Go.Proofs.YtkafoolhbflfkaaGreatDoor.Vc
open Go.Proofs
set_option maxRecDepth 10000
set_option maxHeartbeats 4000000
structure drawnP (x : Place) : Prop where
 p0 : 0 ≤ x.p
 p1 : x.p ≤ 7
 bl : x.bs.length ≤ 4
 bb : ∀ b ∈ x.bs, 0 ≤ b ∧ b ≤ 64
 rl : x.rules.length ≤ 4
 rr : ∀ r ∈ x.rules, r.size ≤ 10000
theorem drawnP.I {x : Place} (h : drawnP x) : placeI x := ⟨⟨⟨⟨by have := h.p0; show -9223372036854775808 ≤ x.p; omega, by have := h.p1; show x.p ≤ 9223372036854775807; omega⟩, fun b hb => by have := h.bb b hb; exact ⟨by omega, by omega⟩⟩, by have := h.bl; show x.bs.length < _; omega⟩, by have := h.rl; omega, fun r hr => by have := h.rr r hr; omega⟩
theorem drawnP.len {x : Place} (h : drawnP x) : lenI x := ⟨by have := h.bl; omega, by have := h.rl; omega⟩
theorem ttext_size (h : House) (t : List Mark) : (ttext (h, t)).size ≤ 10000 := by
 unfold ttext
 split
 ·rename_i g
  exact text_size (bodies_of g.1) g.2.2 g.2.1
 ·exact Nat.zero_le _
theorem set0_ext {l : List ByteArray} {x : ByteArray} {i : Nat} (h : 0 < l.length) : encS ((l.set 0 x).getD i ⟨#[]⟩) = setF (fun j => encS (l.getD j ⟨#[]⟩)) 0 (encS x) (0 + i) := by
 rw [Nat.zero_add]
 unfold setF
 cases i with
 |zero => cases l <;> first | rfl | (simp at h)
 |succ i => cases l <;> first | rfl | simp
def C151 : GC := conG (X := Rd × Int) (fun x => [.ptr 0 0, .int .i64 x.2]) (fun x => [rdO x.1.b x.1.p]) (fun x => x.1.okn 400000000 ∧ i64r x.2) fun x K => ∀ (y : Place) (p' : Int), x.1.p ≤ p' → p' ≤ x.1.p + 250 → drawnP y → K (enPl y) [rdO x.1.b p']
theorem F151 : GG 65 C151 := by
 refine fitG [(95, C173)] (by simp only [List.mem_cons, List.not_mem_nil, or_false]; rintro _ rfl <;> first | exact F173) [(64, C52), (89, C53), (94, C59), (96, C60)] (by simp only [List.mem_cons, List.not_mem_nil, or_false]; rintro _ (rfl | rfl | rfl | rfl) <;> first | exact F52 | exact F53 | exact F59 | exact F60) Tryz.f65 ⟨rfl, by decide +kernel, by decide +kernel⟩ (by intro x K K2 hk h; (try dsimp only at h ⊢); intros; apply hk; first | exact h | (apply h <;> assumption)) ?_
 rintro ⟨⟨b, p⟩, n⟩ K ⟨⟨h1, h2, h3, h4⟩, h5⟩ h
 refine ⟨Nat.le_of_ble_eq_true rfl, ?_⟩
 dsimp only at h h1 h2 h3 h4 h5 ⊢
 repeat' ((conv=>whnf);first|refine vA ?_|with_reducible first|refine v8 ?_|refine Sp.mk ?_ ?_|refine vS ?_|refine vR ?_|refine vB ?_|refine br_nt ?_|refine br_tt ?_|refine br_ff ?_|refine vP ?_|refine vQ ?_|refine vT ?_|refine vF ?_|refine br_and ?_|refine br_or ?_|refine br_d (fun _=>?_) fun _=>?_|refine vM (fun _=>?_) fun _=>?_)
 refine ⟨_, _, [0], [], rfl, ?_, ?_, (⟨b, p⟩, 0), rfl, rfl, ⟨⟨h1, h2, h3, by dsimp only; omega⟩, by unfold i64r; dsimp only; omega⟩, ?_⟩
 ·repeat' ((conv=>whnf);first|with_reducible exact True.intro|exact vW|with_reducible refine And.intro ?_ ?_)
 ·repeat' ((conv=>whnf);first|with_reducible exact True.intro|exact vW|with_reducible refine And.intro ?_ ?_)
 rintro ⟨P, bs⟩ p1 g1 g2 g3 g4 g5
 dsimp only [enH] at g1 g2 g3 g4 g5 ⊢
 repeat' ((conv=>whnf);first|refine vA ?_|with_reducible first|refine v8 ?_|refine Sp.mk ?_ ?_|refine vS ?_|refine vR ?_|refine vB ?_|refine br_nt ?_|refine br_tt ?_|refine br_ff ?_|refine vP ?_|refine vQ ?_|refine vT ?_|refine vF ?_|refine br_and ?_|refine br_or ?_|refine br_d (fun _=>?_) fun _=>?_|refine vM (fun _=>?_) fun _=>?_)
 refine ⟨_, _, [0], [], rfl, ?_, ?_, (⟨b, p1⟩, 3), rfl, rfl, ⟨⟨h1, h2, ?_, ?_⟩, ?_⟩, ?_⟩
 ·repeat' ((conv=>whnf);first|with_reducible exact True.intro|exact vW|with_reducible refine And.intro ?_ ?_)
  try exact Chk.mk (by rw [pw_sh (by assumption)])
 ·repeat' ((conv=>whnf);first|with_reducible exact True.intro|exact vW|with_reducible refine And.intro ?_ ?_)
 ·dsimp only; omega
 ·dsimp only; omega
 ·unfold i64r; dsimp only; omega
 intro k2 p2 a0 a1 a2
 dsimp only at a0 a1 a2
 repeat' ((conv=>whnf);first|refine vA ?_|with_reducible first|refine v8 ?_|refine Sp.mk ?_ ?_|refine vS ?_|refine vR ?_|refine vB ?_|refine br_nt ?_|refine br_tt ?_|refine br_ff ?_|refine vP ?_|refine vQ ?_|refine vT ?_|refine vF ?_|refine br_and ?_|refine br_or ?_|refine br_d (fun _=>?_) fun _=>?_|refine vM (fun _=>?_) fun _=>?_)
 refine Lp.mk ⟨List ByteArray × Int × Int, fun x => [(0, .ptr 0 0), (1, .int .i64 n), (4, .ptr 1 0), (5, .ptr 2 0), (6, .int .i64 x.2.1)],
  fun x => [rdO b x.2.2, .box [.int .i64 0, .nils, .nils], .box [.int .i64 P, slI bs, .row 3 1 0 x.1.length], .row 1 x.1.length fun j => encS (x.1.getD j ⟨#[]⟩)],
  fun x => 0 ≤ x.2.1 ∧ x.2.1 + x.1.length = 1 + k2 ∧ p2 ≤ x.2.2 ∧ x.2.2 ≤ p2 + 40 * x.1.length ∧ ∀ r ∈ x.1, r.size ≤ 10000, fun x => x.2.1.toNat, ⟨([], 1 + k2, p2), ⟨by show 0 ≤ 1 + k2; omega, by simp, by dsimp only; omega, by simp, by simp⟩, ⟨⟨[some 0, some 1, some 2, none], [], rfl, rfl, ?_, ?_⟩⟩⟩, ?_⟩
 ·repeat' ((conv=>whnf);first|with_reducible exact True.intro|exact vW|with_reducible refine And.intro ?_ ?_)
 ·repeat' ((conv=>whnf);first|with_reducible exact True.intro|exact vW|with_reducible refine And.intro ?_ ?_)
 rintro ⟨l, j, q⟩ ⟨i1, i2, i3, i4, i5⟩
 dsimp only at i1 i2 i3 i4 i5 ⊢
 have hI : House.i64 ⟨P, bs⟩ := ⟨⟨by dsimp only; omega, by dsimp only; omega⟩, fun b hb => by have := g5 b hb; exact ⟨by omega, by omega⟩⟩
 repeat' ((conv=>whnf);first|refine vA ?_|with_reducible first|refine v8 ?_|refine Sp.mk ?_ ?_|refine vS ?_|refine vR ?_|refine vB ?_|refine br_nt ?_|refine br_tt ?_|refine br_ff ?_|refine vP ?_|refine vQ ?_|refine vT ?_|refine vF ?_|refine br_and ?_|refine br_or ?_|refine br_d (fun _=>?_) fun _=>?_|refine vM (fun _=>?_) fun _=>?_)
 ·rename_i hj
  refine Dr.mk ⟨(.rd 0 (.rd 1 (.rd 2 (.rd 3 (.rd 4 (.rd 5 (.rd 6 (.ef 7 (.ef 8 (.ef 9 (.ef 10 (.rd 11 (.ef 12 .dn .no)) .no) .no) .no) .no)))))))), by decide +kernel, ?_⟩
  repeat' ((conv=>whnf);first|refine vA ?_|with_reducible first|refine v8 ?_|refine Sp.mk ?_ ?_|refine vS ?_|refine vR ?_|refine vB ?_|refine br_nt ?_|refine br_tt ?_|refine br_ff ?_|refine vP ?_|refine vQ ?_|refine vT ?_|refine vF ?_|refine br_and ?_|refine br_or ?_|refine br_d (fun _=>?_) fun _=>?_|refine vM (fun _=>?_) fun _=>?_)
  refine ⟨_, _, [0], [], rfl, ?_, ?_, ⟨⟨b, q⟩, ⟨P, bs⟩, 0⟩, rfl, rfl, ⟨⟨h1, h2, by dsimp only; omega, by dsimp only; omega⟩, hI, by dsimp only; omega, by unfold i64r; dsimp only; omega⟩, ?_⟩
  ·repeat' ((conv=>whnf);first|with_reducible exact True.intro|exact vW|with_reducible refine And.intro ?_ ?_)
  ·repeat' ((conv=>whnf);first|with_reducible exact True.intro|exact vW|with_reducible refine And.intro ?_ ?_)
  intro t p' t1 t2 t3 t4
  dsimp only at t1 t2 t3 t4 ⊢
  repeat' ((conv=>whnf);first|refine vA ?_|with_reducible first|refine v8 ?_|refine Sp.mk ?_ ?_|refine vS ?_|refine vR ?_|refine vB ?_|refine br_nt ?_|refine br_tt ?_|refine br_ff ?_|refine vP ?_|refine vQ ?_|refine vT ?_|refine vF ?_|refine br_and ?_|refine br_or ?_|refine br_d (fun _=>?_) fun _=>?_|refine vM (fun _=>?_) fun _=>?_)
  refine ⟨(⟨P, bs⟩, t), ?_, ⟨hI, by dsimp only; omega, t4, by dsimp only; omega⟩, ?_⟩
  ·repeat' ((conv=>whnf);first|with_reducible exact True.intro|exact vW|with_reducible refine And.intro ?_ ?_)
  have hts := ttext_size ⟨P, bs⟩ t
  repeat' ((conv=>whnf);first|refine vA ?_|with_reducible first|refine v8 ?_|refine Sp.mk ?_ ?_|refine vS ?_|refine vR ?_|refine vB ?_|refine br_nt ?_|refine br_tt ?_|refine br_ff ?_|refine vP ?_|refine vQ ?_|refine vT ?_|refine vF ?_|refine br_and ?_|refine br_or ?_|refine br_d (fun _=>?_) fun _=>?_|refine vM (fun _=>?_) fun _=>?_)
  refine ⟨(l ++ [ttext (⟨P, bs⟩, t)], j - 1, p'), ⟨by dsimp only; omega, by simp only [List.length_append, List.length_cons, List.length_nil]; omega, by dsimp only; omega, by simp only [List.length_append, List.length_cons, List.length_nil]; omega, fun r hr => ?_⟩, by dsimp only; omega, ⟨⟨[some 0, some 1, some 2, some 5], [], rfl, rfl, ?_, ?_⟩⟩⟩
  ·rcases List.mem_append.1 hr with hr | hr
   ·exact i5 r hr
   ·rw [List.mem_singleton.1 hr]; exact hts
  ·repeat' ((conv=>whnf);first|with_reducible exact True.intro|exact vW|with_reducible refine And.intro ?_ ?_)
  ·repeat' ((conv=>whnf);first|with_reducible exact True.intro|exact vW|with_reducible refine And.intro ?_ ?_)
   all_goals first | exact Chk.mk (ext_push rfl) | exact Chk.mk ⟨rfl, by simp⟩
 ·have hl : l.length ≤ 3 := by omega
  have hD : ∀ (P' : Int) (l' : List ByteArray), 0 ≤ P' → P' ≤ 7 → l'.length ≤ 4 → (∀ r ∈ l', r.size ≤ 10000) → drawnP ⟨P', bs, l'⟩ := fun P' l' q0 q1 q2 q3 => ⟨q0, q1, g4, g5, q2, q3⟩
  repeat' ((conv=>whnf);first|refine vA ?_|with_reducible first|refine v8 ?_|refine Sp.mk ?_ ?_|refine vS ?_|refine vR ?_|refine vB ?_|refine br_nt ?_|refine br_tt ?_|refine br_ff ?_|refine vP ?_|refine vQ ?_|refine vT ?_|refine vF ?_|refine br_and ?_|refine br_or ?_|refine br_d (fun _=>?_) fun _=>?_|refine vM (fun _=>?_) fun _=>?_)
  refine ⟨_, _, [0], [], rfl, ?_, ?_, (⟨b, q⟩, n), rfl, rfl, ⟨⟨h1, h2, by dsimp only; omega, by dsimp only; omega⟩, h5⟩, ?_⟩
  ·repeat' ((conv=>whnf);first|with_reducible exact True.intro|exact vW|with_reducible refine And.intro ?_ ?_)
  ·repeat' ((conv=>whnf);first|with_reducible exact True.intro|exact vW|with_reducible refine And.intro ?_ ?_)
  intro v p' v1 v2
  dsimp only at v1 v2 ⊢
  repeat' ((conv=>whnf);first|refine vA ?_|with_reducible first|refine v8 ?_|refine Sp.mk ?_ ?_|refine vS ?_|refine vR ?_|refine vB ?_|refine br_nt ?_|refine br_tt ?_|refine br_ff ?_|refine vP ?_|refine vQ ?_|refine vT ?_|refine vF ?_|refine br_and ?_|refine br_or ?_|refine br_d (fun _=>?_) fun _=>?_|refine vM (fun _=>?_) fun _=>?_)
  ·refine ⟨_, _, [0], [], rfl, ?_, ?_, (⟨b, p'⟩, 3), rfl, rfl, ⟨⟨h1, h2, ?_, ?_⟩, ?_⟩, ?_⟩
   ·repeat' ((conv=>whnf);first|with_reducible exact True.intro|exact vW|with_reducible refine And.intro ?_ ?_)
    try exact Chk.mk (by rw [pw_sh (by assumption)])
   ·repeat' ((conv=>whnf);first|with_reducible exact True.intro|exact vW|with_reducible refine And.intro ?_ ?_)
   ·dsimp only; omega
   ·dsimp only; omega
   ·unfold i64r; dsimp only; omega
   intro k5 p5 e0 e1 e2
   dsimp only at e0 e1 e2
   repeat' ((conv=>whnf);first|refine vA ?_|with_reducible first|refine v8 ?_|refine Sp.mk ?_ ?_|refine vS ?_|refine vR ?_|refine vB ?_|refine br_nt ?_|refine br_tt ?_|refine br_ff ?_|refine vP ?_|refine vQ ?_|refine vT ?_|refine vF ?_|refine br_and ?_|refine br_or ?_|refine br_d (fun _=>?_) fun _=>?_|refine vM (fun _=>?_) fun _=>?_)
   ·refine ⟨_, _, [some 0], [3], rfl, rfl, ?_, ?_, h ⟨P, bs, l.set 0 ⟨#[40, 65, 49, 41]⟩⟩ p5 (by omega) (by omega) (hD P _ (by omega) (by omega) (by rw [List.length_set]; omega) (fun r hr => (List.mem_or_eq_of_mem_set hr).elim (fun hr => i5 r hr) (fun e => by rw [e]; exact (by decide : (4 : Nat) ≤ 10000))))⟩
    ·repeat' ((conv=>whnf);first|with_reducible exact True.intro|exact vW|with_reducible refine And.intro ?_ ?_)
     all_goals exact Chk.mk ⟨by rw [List.length_set], by omega, fun i _ => set0_ext (by omega)⟩
    ·repeat' ((conv=>whnf);first|with_reducible exact True.intro|exact vW|with_reducible refine And.intro ?_ ?_)
   ·refine ⟨_, _, [some 0], [3], rfl, rfl, ?_, ?_, h ⟨7, bs, l⟩ p5 (by omega) (by omega) (hD 7 l (by omega) (by omega) (by omega) i5)⟩
    ·repeat' ((conv=>whnf);first|with_reducible exact True.intro|exact vW|with_reducible refine And.intro ?_ ?_)
     all_goals exact Chk.mk ⟨rfl, by omega, fun i _ => by rw [Nat.zero_add]⟩
    ·repeat' ((conv=>whnf);first|with_reducible exact True.intro|exact vW|with_reducible refine And.intro ?_ ?_)
   ·refine ⟨_, _, [some 0], [], rfl, rfl, ?_, ?_, h default p5 (by omega) (by omega) ⟨by decide, by decide, by decide, (fun _ hb => by cases hb), by decide, (fun _ hb => by cases hb)⟩⟩
    ·repeat' ((conv=>whnf);first|with_reducible exact True.intro|exact vW|with_reducible refine And.intro ?_ ?_)
    ·repeat' ((conv=>whnf);first|with_reducible exact True.intro|exact vW|with_reducible refine And.intro ?_ ?_)
  ·refine ⟨_, _, [some 0], [3], rfl, rfl, ?_, ?_, h ⟨P, bs, l⟩ p' (by omega) (by omega) (hD P l (by omega) (by omega) (by omega) i5)⟩
   ·repeat' ((conv=>whnf);first|with_reducible exact True.intro|exact vW|with_reducible refine And.intro ?_ ?_)
    all_goals exact Chk.mk ⟨rfl, by omega, fun i _ => by rw [Nat.zero_add]⟩
   ·repeat' ((conv=>whnf);first|with_reducible exact True.intro|exact vW|with_reducible refine And.intro ?_ ?_)
def bytesI (l : List Int) : Prop := (∀ n ∈ l, u8r n) ∧ l.length < 9223372036854775808
def dpost (K : AV → Prop) : Prop := ∀ y : Place, drawnP y → K (enPl y)
def C125 : List AV → (AV → Prop) → Prop := con (X := List Int) (fun l => [slB l]) bytesI fun _ K => dpost K
/-! ### A further body leaves terms what they are -/
theorem no_place : ¬ placeOk default := fun h => by
 have := h.1.1.1
 exact absurd this (by decide)
end Go.Proofs.YtkafoolhbflfkaaGreatDoor.Vc
end
section
/- Part TL: new desks. -/
namespace Go.Proofs.YtkafoolhbflfkaaGreatDoor.Vc
open Go.Proofs
set_option maxRecDepth 10000
set_option maxHeartbeats 4000000
def newDe (x : Place) : Desk := if placeOk x then ⟨x, []⟩ else default
theorem placeOk_short {x : Place} (h : placeOk x) : x.rules.length ≤ 100000000 ∧ x.bs.length ≤ 100000000 := ⟨Nat.le_trans h.2.1.2 (by omega), Nat.le_trans h.1.2.1 (by omega)⟩
def C132 : List AV → (AV → Prop) → Prop := con (X := Place) (fun x => [enPl x]) placeI fun x K => K (.tup [enDe (newDe x), .bool (decide (placeOk x))])
theorem F132 : FF 29 C132 := by
 refine fitXE [(66, C152), (71, C157)] (by simp only [List.mem_cons, List.not_mem_nil, or_false]; rintro _ (rfl | rfl) <;> first | exact F152 | exact F157) [] (by simp) Tryz.f29 ⟨rfl, by decide +kernel, by decide +kernel⟩ (by intro x K K2 hk h; (try dsimp only at h ⊢); intros; apply hk; first | exact h | (apply h <;> assumption)) ?_
 rintro ⟨p, bs, rs⟩ K hI h
 refine ⟨Nat.le_of_ble_eq_true rfl, ?_⟩
 unfold newDe at h
 dsimp only [enPl, plC] at h ⊢
 repeat' ((conv=>whnf);first|refine vA ?_|with_reducible first|refine v8 ?_|refine Sp.mk ?_ ?_|refine vS ?_|refine vR ?_|refine vB ?_|refine br_nt ?_|refine br_tt ?_|refine br_ff ?_|refine vP ?_|refine vQ ?_|refine vT ?_|refine vF ?_|refine br_and ?_|refine br_or ?_|refine br_d (fun _=>?_) fun _=>?_|refine vM (fun _=>?_) fun _=>?_)
 refine ⟨⟨p, bs, rs⟩, ?_, ⟨hI⟩, ?_⟩
 ·repeat' ((conv=>whnf);first|with_reducible exact True.intro|exact vW|with_reducible refine And.intro ?_ ?_)
 repeat' ((conv=>whnf);first|refine vA ?_|with_reducible first|refine v8 ?_|refine Sp.mk ?_ ?_|refine vS ?_|refine vR ?_|refine vB ?_|refine br_nt ?_|refine br_tt ?_|refine br_ff ?_|refine vP ?_|refine vQ ?_|refine vT ?_|refine vF ?_|refine br_and ?_|refine br_or ?_|refine br_d (fun _=>?_) fun _=>?_|refine vM (fun _=>?_) fun _=>?_)
 ·rename_i hO
  replace hO : placeOk ⟨p, bs, rs⟩ := hO
  rw [if_pos hO, decide_eq_true hO] at h
  refine ⟨⟨p, bs, rs⟩, ?_, ⟨placeOk_short hO⟩, ?_⟩
  ·repeat' ((conv=>whnf);first|with_reducible exact True.intro|exact vW|with_reducible refine And.intro ?_ ?_)
  dsimp only [enPl, plC]
  repeat' ((conv=>whnf);first|refine vA ?_|with_reducible first|refine v8 ?_|refine Sp.mk ?_ ?_|refine vS ?_|refine vR ?_|refine vB ?_|refine br_nt ?_|refine br_tt ?_|refine br_ff ?_|refine vP ?_|refine vQ ?_|refine vT ?_|refine vF ?_|refine br_and ?_|refine br_or ?_|refine br_d (fun _=>?_) fun _=>?_|refine vM (fun _=>?_) fun _=>?_)
  refine ⟨_, ?_, h⟩
  repeat' ((conv=>whnf);first|with_reducible exact True.intro|exact vW|with_reducible refine And.intro ?_ ?_)
 ·rename_i hO
  replace hO : ¬ placeOk ⟨p, bs, rs⟩ := hO
  rw [if_neg hO, decide_eq_false hO] at h
  refine ⟨_, ?_, h⟩
  repeat' ((conv=>whnf);first|with_reducible exact True.intro|exact vW|with_reducible refine And.intro ?_ ?_)
theorem drawnP.lenD {x : Place} (h : drawnP x) : lenD ⟨x, []⟩ := ⟨h.len, (by decide : 0 < 9223372036854775808), fun _ hb => by cases hb⟩
theorem lenD0 : lenD default := ⟨⟨by decide, by decide⟩, by decide, fun _ hb => by cases hb⟩
end Go.Proofs.YtkafoolhbflfkaaGreatDoor.Vc
end
section
/- Part TM: what a deed makes of a place, by the reference. -/
namespace Go.Proofs.YtkafoolhbflfkaaGreatDoor.Vc
open Go.Proofs
set_option maxRecDepth 10000
set_option maxHeartbeats 4000000
structure Hc where
 h : House
 t : List Mark
 c : Int
def consB (x : Hc) : Bool := decide (termOk x.h x.t) && (decide (crowd x.h.p x.c) && says x.h.bs x.c x.t)
def C209 : List AV → (AV → Prop) → Prop := con (X := Hc) (fun x => [enH x.h, slM x.t, .int .i64 x.c]) (fun x => termI x.h x.t ∧ i64r x.c) fun x K => K (.bool (consB x))
theorem sayOk_of' {p : Int} {bs : List Int} {t : List Mark} (h : termOk ⟨p, bs⟩ t) {c : Int} (hc : crowd p c) : sayOk ⟨p, bs, t, c⟩ := by
 have pw2 := (pw_le hc.1).2
 have hl := h.2.1
 have hcl := hc.2
 exact ⟨by show t.length < 4611686018427387904; omega, h.2.2, fun b hb => by have g : crowd p b := (h.1.2.2 b hb).1; have := g.2; omega, hcl.1, by show c < 64; omega⟩
theorem F209 : FF 155 C209 := by
 refine fitE [(125, C33), (134, C62), (178, C36)] (by simp only [List.mem_cons, List.not_mem_nil, or_false]; rintro _ (rfl | rfl | rfl) <;> first | exact F33 | exact F62 | exact F36) Tryz.f155 ⟨rfl, by decide +kernel, by decide +kernel⟩ (fun _ _ _ hk h => hk _ h) ?_
 rintro ⟨⟨p, bs⟩, t, c⟩ K ⟨hI, hc⟩ h
 refine ⟨Nat.le_of_ble_eq_true rfl, ?_⟩
 have hp := hI.1.1
 unfold consB at h
 dsimp only [enH] at h hc hp ⊢
 repeat' ((conv=>whnf);first|refine vA ?_|with_reducible first|refine v8 ?_|refine Sp.mk ?_ ?_|refine vS ?_|refine vR ?_|refine vB ?_|refine br_nt ?_|refine br_tt ?_|refine br_ff ?_|refine vP ?_|refine vQ ?_|refine vT ?_|refine vF ?_|refine br_and ?_|refine br_or ?_|refine br_d (fun _=>?_) fun _=>?_|refine vM (fun _=>?_) fun _=>?_)
 refine ⟨(⟨p, bs⟩, t), ?_, ⟨hI⟩, ?_⟩
 ·repeat' ((conv=>whnf);first|with_reducible exact True.intro|exact vW|with_reducible refine And.intro ?_ ?_)
 repeat' ((conv=>whnf);first|refine vA ?_|with_reducible first|refine v8 ?_|refine Sp.mk ?_ ?_|refine vS ?_|refine vR ?_|refine vB ?_|refine br_nt ?_|refine br_tt ?_|refine br_ff ?_|refine vP ?_|refine vQ ?_|refine vT ?_|refine vF ?_|refine br_and ?_|refine br_or ?_|refine br_d (fun _=>?_) fun _=>?_|refine vM (fun _=>?_) fun _=>?_)
 ·rename_i hO
  have hO' : termOk ⟨p, bs⟩ t := hO
  rw [decide_eq_true hO', Bool.true_and] at h
  refine ⟨(p, c), ?_, ⟨hp, hc⟩, ?_⟩
  ·repeat' ((conv=>whnf);first|with_reducible exact True.intro|exact vW|with_reducible refine And.intro ?_ ?_)
  repeat' ((conv=>whnf);first|refine vA ?_|with_reducible first|refine v8 ?_|refine Sp.mk ?_ ?_|refine vS ?_|refine vR ?_|refine vB ?_|refine br_nt ?_|refine br_tt ?_|refine br_ff ?_|refine vP ?_|refine vQ ?_|refine vT ?_|refine vF ?_|refine br_and ?_|refine br_or ?_|refine br_d (fun _=>?_) fun _=>?_|refine vM (fun _=>?_) fun _=>?_)
  ·rename_i hcr
   have hcr' : crowd p c := hcr
   rw [decide_eq_true hcr', Bool.true_and] at h
   refine ⟨⟨p, bs, t, c⟩, ?_, ⟨sayOk_of' hO' hcr'⟩, ?_⟩
   ·repeat' ((conv=>whnf);first|with_reducible exact True.intro|exact vW|with_reducible refine And.intro ?_ ?_)
   repeat' ((conv=>whnf);first|refine vA ?_|with_reducible first|refine v8 ?_|refine Sp.mk ?_ ?_|refine vS ?_|refine vR ?_|refine vB ?_|refine br_nt ?_|refine br_tt ?_|refine br_ff ?_|refine vP ?_|refine vQ ?_|refine vT ?_|refine vF ?_|refine br_and ?_|refine br_or ?_|refine br_d (fun _=>?_) fun _=>?_|refine vM (fun _=>?_) fun _=>?_)
   exact h
  ·rename_i hcr
   have hcr' : ¬ crowd p c := hcr
   rw [decide_eq_false hcr', Bool.false_and] at h
   exact h
 ·rename_i hO
  have hO' : ¬ termOk ⟨p, bs⟩ t := hO
  rw [decide_eq_false hO', Bool.false_and] at h
  exact h
def consR (x : Place) (r c : Int) : Bool := if 0 ≤ r ∧ r < x.rules.length then (match rdT 49 x.h (x.rules.getD r.toNat ⟨#[]⟩) with
 |some t => decide (crowd x.p c) && says x.bs c t
 |none => false) else false
structure Pc where
 x : Place
 r : Int
 c : Int
def C206 : List AV → (AV → Prop) → Prop := con (X := Pc) (fun x => [enPl x.x, .int .i64 x.r, .int .i64 x.c]) (fun x => placeI x.x ∧ i64r x.r ∧ i64r x.c) fun x K => K (.bool (consR x.x x.r x.c))
theorem rdT_termI {h : House} (hI : houI h) {s : ByteArray} {t : List Mark} (e : rdT 49 h s = some t) : termI h t ∧ termOk h t := by
 obtain ⟨g1, g2, g3⟩ := (rdT_iff (by decide)).1 e
 have hs := (read_tr (lo := 49) (bodies_of g2.1) (by decide) (Tr.of g2.2.2)).2 80 (by rw [g3]; exact g1) [] (by simp)
 rw [List.append_nil] at hs
 have hs' : eitherP (partF 49 80) (bys (textT t)) = some (t, []) := by rw [hs]; rfl
 have hm := eitherP_sane (by decide) 80 _ _ _ hs'
 have hl := g2.2.1
 exact ⟨⟨hI.1, hI.2, hm, by omega⟩, g2⟩
theorem F206 : FF 136 C206 := by
 refine fitE [(62, C35), (103, C153), (155, C209)] (by simp only [List.mem_cons, List.not_mem_nil, or_false]; rintro _ (rfl | rfl | rfl) <;> first | exact F35 | exact F153 | exact F209) Tryz.f136 ⟨rfl, by decide +kernel, by decide +kernel⟩ (fun _ _ _ hk h => hk _ h) ?_
 rintro ⟨⟨p, bs, rs⟩, r, c⟩ K ⟨hI, hr, hc⟩ h
 refine ⟨Nat.le_of_ble_eq_true rfl, ?_⟩
 have hI1 := hI.1
 have hI2 := hI.2.1
 have hI3 := hI.2.2
 unfold consR at h
 dsimp only [enPl, plC] at h hr hc hI2 hI3 ⊢
 repeat' ((conv=>whnf);first|refine vA ?_|with_reducible first|refine v8 ?_|refine Sp.mk ?_ ?_|refine vS ?_|refine vR ?_|refine vB ?_|refine br_nt ?_|refine br_tt ?_|refine br_ff ?_|refine vP ?_|refine vQ ?_|refine vT ?_|refine vF ?_|refine br_and ?_|refine br_or ?_|refine br_d (fun _=>?_) fun _=>?_|refine vM (fun _=>?_) fun _=>?_)
 refine ⟨(r, 0, rs.length - 1), ?_, ⟨trivial⟩, ?_⟩
 ·repeat' ((conv=>whnf);first|with_reducible exact True.intro|exact vW|with_reducible refine And.intro ?_ ?_)
 dsimp only
 repeat' ((conv=>whnf);first|refine vA ?_|with_reducible first|refine v8 ?_|refine Sp.mk ?_ ?_|refine vS ?_|refine vR ?_|refine vB ?_|refine br_nt ?_|refine br_tt ?_|refine br_ff ?_|refine vP ?_|refine vQ ?_|refine vT ?_|refine vF ?_|refine br_and ?_|refine br_or ?_|refine br_d (fun _=>?_) fun _=>?_|refine vM (fun _=>?_) fun _=>?_)
 ·rename_i g
  rw [if_pos (by omega)] at h
  have hr2 : r.toNat < rs.length := by omega
  refine Dr.mk ⟨(.rd 0 (.rd 1 (.rd 2 (.rd 3 (.rd 4 (.rd 5 (.rd 6 (.ef 7 (.rd 8 (.rd 9 (.rd 10 (.rd 11 (.rd 12 .dn))))) .no)))))))), by decide +kernel, ?_⟩
  repeat' ((conv=>whnf);first|refine vA ?_|with_reducible first|refine v8 ?_|refine Sp.mk ?_ ?_|refine vS ?_|refine vR ?_|refine vB ?_|refine br_nt ?_|refine br_tt ?_|refine br_ff ?_|refine vP ?_|refine vQ ?_|refine vT ?_|refine vF ?_|refine br_and ?_|refine br_or ?_|refine br_d (fun _=>?_) fun _=>?_|refine vM (fun _=>?_) fun _=>?_)
  refine ⟨⟨⟨p, bs⟩, rs.getD r.toNat ⟨#[]⟩⟩, ?_, ⟨hI1, getD_len hI3 hr2⟩, ?_⟩
  ·repeat' ((conv=>whnf);first|with_reducible exact True.intro|exact vW|with_reducible refine And.intro ?_ ?_)
  refine And.intro (fun e => ?_) (fun t e => ?_)
  ·have e' : rdT 49 (Place.h ⟨p, bs, rs⟩) (rs.getD r.toNat ⟨#[]⟩) = none := by rw [← rdT_eq]; exact e
   rw [e'] at h
   repeat' ((conv=>whnf);first|refine vA ?_|with_reducible first|refine v8 ?_|refine Sp.mk ?_ ?_|refine vS ?_|refine vR ?_|refine vB ?_|refine br_nt ?_|refine br_tt ?_|refine br_ff ?_|refine vP ?_|refine vQ ?_|refine vT ?_|refine vF ?_|refine br_and ?_|refine br_or ?_|refine br_d (fun _=>?_) fun _=>?_|refine vM (fun _=>?_) fun _=>?_)
   refine ⟨⟨⟨p, bs⟩, [], c⟩, ?_, ⟨⟨hI1.1, hI1.2, by simp, by simp⟩, hc⟩, ?_⟩
   ·repeat' ((conv=>whnf);first|with_reducible exact True.intro|exact vW|with_reducible refine And.intro ?_ ?_)
   have hno : consB ⟨⟨p, bs⟩, [], c⟩ = false := by
    unfold consB
    rw [decide_eq_false (fun q => by have := q.2.2; simp [walkP] at this)]
    rfl
   dsimp only
   rw [hno]
   repeat' ((conv=>whnf);first|refine vA ?_|with_reducible first|refine v8 ?_|refine Sp.mk ?_ ?_|refine vS ?_|refine vR ?_|refine vB ?_|refine br_nt ?_|refine br_tt ?_|refine br_ff ?_|refine vP ?_|refine vQ ?_|refine vT ?_|refine vF ?_|refine br_and ?_|refine br_or ?_|refine br_d (fun _=>?_) fun _=>?_|refine vM (fun _=>?_) fun _=>?_)
   exact h
  ·have e' : rdT 49 (Place.h ⟨p, bs, rs⟩) (rs.getD r.toNat ⟨#[]⟩) = some t := by rw [← rdT_eq]; exact e
   rw [e'] at h
   obtain ⟨ht, hO⟩ := rdT_termI hI1 e'
   repeat' ((conv=>whnf);first|refine vA ?_|with_reducible first|refine v8 ?_|refine Sp.mk ?_ ?_|refine vS ?_|refine vR ?_|refine vB ?_|refine br_nt ?_|refine br_tt ?_|refine br_ff ?_|refine vP ?_|refine vQ ?_|refine vT ?_|refine vF ?_|refine br_and ?_|refine br_or ?_|refine br_d (fun _=>?_) fun _=>?_|refine vM (fun _=>?_) fun _=>?_)
   refine ⟨⟨⟨p, bs⟩, t, c⟩, ?_, ⟨ht, hc⟩, ?_⟩
   ·repeat' ((conv=>whnf);first|with_reducible exact True.intro|exact vW|with_reducible refine And.intro ?_ ?_)
   have hyes : consB ⟨⟨p, bs⟩, t, c⟩ = (decide (crowd p c) && says bs c t) := by
    unfold consB
    rw [decide_eq_true (show termOk ⟨p, bs⟩ t from hO), Bool.true_and]
   dsimp only
   rw [hyes]
   repeat' ((conv=>whnf);first|refine vA ?_|with_reducible first|refine v8 ?_|refine Sp.mk ?_ ?_|refine vS ?_|refine vR ?_|refine vB ?_|refine br_nt ?_|refine br_tt ?_|refine br_ff ?_|refine vP ?_|refine vQ ?_|refine vT ?_|refine vF ?_|refine br_and ?_|refine br_or ?_|refine br_d (fun _=>?_) fun _=>?_|refine vM (fun _=>?_) fun _=>?_)
   exact h
 ·rename_i g
  rw [if_neg (by omega)] at h
  exact h
/-! ### Copies with memory of their own -/
def plG (x : Place) : AV := .agg [.int .i64 x.p, .row 0 1 0 x.bs.length, .row 1 1 0 x.rules.length]
def plO (x : Place) : List Obj := [.row 1 x.bs.length fun i => encI (x.bs.getD i 0), .row 1 x.rules.length fun i => encS (x.rules.getD i ⟨#[]⟩)]
def C158g : GC := conG (X := Place) (fun x => [enPl x]) (fun _ => []) (fun x => x.rules.length ≤ 100000000 ∧ x.bs.length ≤ 100000000) fun x K => K (plG x) (plO x)
theorem F158g : GG 135 C158g := by
 refine fitG [] (by simp) [] (by simp) Tryz.f135 ⟨rfl, by decide +kernel, by decide +kernel⟩ (by intro x K K2 hk h; (try dsimp only at h ⊢); intros; apply hk; first | exact h | (apply h <;> assumption)) ?_
 rintro ⟨p, bs, rs⟩ K ⟨h1, h2⟩ h
 refine ⟨Nat.le_of_ble_eq_true rfl, ?_⟩
 unfold plG plO at h
 dsimp only [enPl, plC] at h h1 h2 ⊢
 repeat' ((conv=>whnf);first|refine vA ?_|with_reducible first|refine v8 ?_|refine Sp.mk ?_ ?_|refine vS ?_|refine vR ?_|refine vB ?_|refine br_nt ?_|refine br_tt ?_|refine br_ff ?_|refine vP ?_|refine vQ ?_|refine vT ?_|refine vF ?_|refine br_and ?_|refine br_or ?_|refine br_d (fun _=>?_) fun _=>?_|refine vM (fun _=>?_) fun _=>?_)
 refine Dr.mk ⟨(.rd 0 (.rd 1 (.rd 2 (.rd 4 (.rd 5 (.rd 6 (.rd 10 (.rd 11 (.ef 3 (.ef 7 (.rd 8 (.ef 9 (.ef 12 (.rd 13 (.ef 14 .dn .no)) .no) .no)) (.ef 9 (.ef 7 (.rd 8 (.ef 12 (.rd 13 (.ef 14 .dn .no)) .no)) .no) .no)) (.ef 9 (.ef 3 (.ef 7 (.rd 8 (.ef 12 (.rd 13 (.ef 14 .dn .no)) .no)) .no) .no) .no)))))))))), by decide +kernel, ?_⟩
 repeat' ((conv=>whnf);first|refine vA ?_|with_reducible first|refine v8 ?_|refine Sp.mk ?_ ?_|refine vS ?_|refine vR ?_|refine vB ?_|refine br_nt ?_|refine br_tt ?_|refine br_ff ?_|refine vP ?_|refine vQ ?_|refine vT ?_|refine vF ?_|refine br_and ?_|refine br_or ?_|refine br_d (fun _=>?_) fun _=>?_|refine vM (fun _=>?_) fun _=>?_)
 all_goals
  first
  |(refine ⟨_, _, [some 2, some 3], [], rfl, rfl, ?_, ?_, h⟩ <;> (repeat' ((conv=>whnf);first|with_reducible exact True.intro|exact vW|with_reducible refine And.intro ?_ ?_)) <;> fail)
  |(refine ⟨_, _, [some 3, some 2], [], rfl, rfl, ?_, ?_, h⟩ <;> (repeat' ((conv=>whnf);first|with_reducible exact True.intro|exact vW|with_reducible refine And.intro ?_ ?_)) <;> fail)
def C157g := C158g
theorem F157g : GG 71 C157g := by
 refine fitG [] (by simp) [] (by simp) Tryz.f71 ⟨rfl, by decide +kernel, by decide +kernel⟩ (by intro x K K2 hk h; (try dsimp only at h ⊢); intros; apply hk; first | exact h | (apply h <;> assumption)) ?_
 rintro ⟨p, bs, rs⟩ K ⟨h1, h2⟩ h
 refine ⟨Nat.le_of_ble_eq_true rfl, ?_⟩
 unfold plG plO at h
 dsimp only [enPl, plC] at h h1 h2 ⊢
 repeat' ((conv=>whnf);first|refine vA ?_|with_reducible first|refine v8 ?_|refine Sp.mk ?_ ?_|refine vS ?_|refine vR ?_|refine vB ?_|refine br_nt ?_|refine br_tt ?_|refine br_ff ?_|refine vP ?_|refine vQ ?_|refine vT ?_|refine vF ?_|refine br_and ?_|refine br_or ?_|refine br_d (fun _=>?_) fun _=>?_|refine vM (fun _=>?_) fun _=>?_)
 refine Dr.mk ⟨(.rd 0 (.rd 1 (.rd 2 (.rd 4 (.rd 5 (.rd 6 (.rd 10 (.rd 11 (.ef 3 (.ef 7 (.rd 8 (.ef 9 (.ef 12 (.rd 13 (.ef 14 .dn .no)) .no) .no)) (.ef 9 (.ef 7 (.rd 8 (.ef 12 (.rd 13 (.ef 14 .dn .no)) .no)) .no) .no)) (.ef 9 (.ef 3 (.ef 7 (.rd 8 (.ef 12 (.rd 13 (.ef 14 .dn .no)) .no)) .no) .no) .no)))))))))), by decide +kernel, ?_⟩
 repeat' ((conv=>whnf);first|refine vA ?_|with_reducible first|refine v8 ?_|refine Sp.mk ?_ ?_|refine vS ?_|refine vR ?_|refine vB ?_|refine br_nt ?_|refine br_tt ?_|refine br_ff ?_|refine vP ?_|refine vQ ?_|refine vT ?_|refine vF ?_|refine br_and ?_|refine br_or ?_|refine br_d (fun _=>?_) fun _=>?_|refine vM (fun _=>?_) fun _=>?_)
 all_goals
  first
  |(refine ⟨_, _, [some 2, some 3], [], rfl, rfl, ?_, ?_, h⟩ <;> (repeat' ((conv=>whnf);first|with_reducible exact True.intro|exact vW|with_reducible refine And.intro ?_ ?_)) <;> fail)
  |(refine ⟨_, _, [some 3, some 2], [], rfl, rfl, ?_, ?_, h⟩ <;> (repeat' ((conv=>whnf);first|with_reducible exact True.intro|exact vW|with_reducible refine And.intro ?_ ?_)) <;> fail)
theorem ext_sym {α : Type} {enc : α → List AV} {d : α} {l : List α} {n : Nat} {g : Nat → List AV} (h : l.length = n ∧ ∀ j, j < l.length → enc (l.getD j d) = g j) : n = l.length ∧ ∀ j, j < n → g (0 + j) = enc (l.getD j d) := ⟨h.1.symm, fun j hj => by rw [Nat.zero_add]; exact (h.2 j (by rw [h.1]; exact hj)).symm⟩
theorem consR_in {x : Place} {r c : Int} (h : consR x r c = true) : (0 ≤ r ∧ r < x.rules.length) ∧ r.toNat < x.rules.length := by
 unfold consR at h
 split at h
 ·rename_i g
  exact ⟨g, by omega⟩
 ·cases h
theorem ext_set {l : List ByteArray} {x : ByteArray} {n : Nat} (h : n < l.length) : l.length = (l.set n x).length ∧ ∀ i, i < l.length → setF (fun j => encS (l.getD j ⟨#[]⟩)) (0 + n) (encS x) (0 + i) = encS ((l.set n x).getD i ⟨#[]⟩) := by
 refine ⟨by rw [List.length_set], fun i hi => ?_⟩
 rw [Nat.zero_add, Nat.zero_add, List.getD_eq_getElem?_getD, List.getElem?_set]
 unfold setF
 cases hb : Nat.beq i n with
 |true =>
  obtain rfl := Nat.eq_of_beq_eq_true hb
  rw [if_pos rfl, if_pos h]
  rfl
 |false =>
  have := Nat.ne_of_beq_eq_false hb
  rw [if_neg (fun e => this e.symm), ← List.getD_eq_getElem?_getD]
  rfl
theorem ext_cut {l : List ByteArray} {n : Nat} (h : n < l.length) : n + (l.length - (n + 1)) = (l.take n ++ l.drop (n + 1)).length ∧ ∀ i, i < n + (l.length - (n + 1)) → appF n (fun j => encS (l.getD j ⟨#[]⟩)) (fun j => encS (l.getD (n + 1 + j) ⟨#[]⟩)) (0 + i) = encS ((l.take n ++ l.drop (n + 1)).getD i ⟨#[]⟩) := by
 have := ext_app (enc := encS) (d := ⟨#[]⟩) (l := l) (m := l.drop (n + 1)) (n := n) (g := fun j => encS (l.getD (n + 1 + j) ⟨#[]⟩)) (by omega) fun j hj => by
  rw [List.getD_eq_getElem?_getD, List.getD_eq_getElem?_getD, List.getElem?_drop]
 rw [List.length_drop] at this
 exact ext_sym this
def madeP (x : Place) (a : Dd) : Place :=
 if a.kind = 0 ∧ a.b = 0 ∧ a.words = ⟨#[]⟩ then ⟨x.p, x.bs ++ [a.a], x.rules⟩
 else if a.kind = 1 ∧ a.a = 0 ∧ a.b = 0 then ⟨x.p, x.bs, x.rules ++ [a.words]⟩
 else if a.kind = 2 ∧ consR x a.a a.b = true then ⟨x.p, x.bs, x.rules.set a.a.toNat a.words⟩
 else if a.kind = 3 ∧ a.words = ⟨#[]⟩ ∧ consR x a.a a.b = true then ⟨x.p, x.bs, x.rules.take a.a.toNat ++ x.rules.drop (a.a.toNat + 1)⟩
 else default
section
variable {x : Place} {k a b : Int} {w : ByteArray}
theorem made_0n (h : k = 0) (hn : ¬ (b = 0 ∧ w = ⟨#[]⟩)) : madeP x ⟨k, a, b, w⟩ = default := by
 unfold madeP
 dsimp only
 rw [if_neg (fun q => hn q.2), if_neg (by omega), if_neg (by omega), if_neg (by omega)]
theorem made_1n (h : k = 1) (hn : ¬ (a = 0 ∧ b = 0)) : madeP x ⟨k, a, b, w⟩ = default := by
 unfold madeP
 dsimp only
 rw [if_neg (by omega), if_neg (fun q => hn q.2), if_neg (by omega), if_neg (by omega)]
theorem made_2n (h : k = 2) (hn : consR x a b = false) : madeP x ⟨k, a, b, w⟩ = default := by
 unfold madeP
 dsimp only
 rw [if_neg (by omega), if_neg (by omega), if_neg (fun q => by rw [hn] at q; cases q.2), if_neg (by omega)]
theorem made_3n (h : k = 3) (hn : ¬ (w = ⟨#[]⟩ ∧ consR x a b = true)) : madeP x ⟨k, a, b, w⟩ = default := by
 unfold madeP
 dsimp only
 rw [if_neg (by omega), if_neg (by omega), if_neg (by omega), if_neg (fun q => hn q.2)]
theorem made_n (h0 : ¬ k = 0) (h1 : ¬ k = 1) (h2 : ¬ k = 2) (h3 : ¬ k = 3) : madeP x ⟨k, a, b, w⟩ = default := by
 unfold madeP
 dsimp only
 rw [if_neg (by omega), if_neg (by omega), if_neg (by omega), if_neg (by omega)]
theorem made_0 (h : k = 0) (h1 : b = 0) (h2 : w = ⟨#[]⟩) : madeP x ⟨k, a, b, w⟩ = ⟨x.p, x.bs ++ [a], x.rules⟩ := if_pos ⟨h, h1, h2⟩
theorem made_1 (h : k = 1) (h1 : a = 0) (h2 : b = 0) : madeP x ⟨k, a, b, w⟩ = ⟨x.p, x.bs, x.rules ++ [w]⟩ := by
 unfold madeP
 dsimp only
 rw [if_neg (by omega), if_pos ⟨h, h1, h2⟩]
theorem made_2 (h : k = 2) (h1 : consR x a b = true) : madeP x ⟨k, a, b, w⟩ = ⟨x.p, x.bs, x.rules.set a.toNat w⟩ := by
 unfold madeP
 dsimp only
 rw [if_neg (by omega), if_neg (by omega), if_pos ⟨h, h1⟩]
theorem made_3 (h : k = 3) (h1 : w = ⟨#[]⟩) (h2 : consR x a b = true) : madeP x ⟨k, a, b, w⟩ = ⟨x.p, x.bs, x.rules.take a.toNat ++ x.rules.drop (a.toNat + 1)⟩ := by
 unfold madeP
 dsimp only
 rw [if_neg (by omega), if_neg (by omega), if_neg (by omega), if_pos ⟨h, h1, h2⟩]
end
structure Pd where
 x : Place
 a : Dd
def shortP (x : Place) : Prop := x.rules.length ≤ 100000000 ∧ x.bs.length ≤ 100000000
def dedI (a : Dd) : Prop := i64r a.kind ∧ i64r a.a ∧ i64r a.b ∧ a.words.size < 9223372036854775808
def C199 : List AV → (AV → Prop) → Prop := con (X := Pd) (fun x => [enPl x.x, ded x.a]) (fun x => placeI x.x ∧ shortP x.x ∧ dedI x.a) fun x K => K (enPl (madeP x.x x.a))
theorem F199 : FF 110 C199 := by
 refine fitXE [(136, C206)] (by simp only [List.mem_cons, List.not_mem_nil, or_false]; rintro _ rfl; exact F206) [(135, C158g)] (by simp only [List.mem_cons, List.not_mem_nil, or_false]; rintro _ rfl; exact F158g) Tryz.f110 ⟨rfl, by decide +kernel, by decide +kernel⟩ (fun _ _ _ hk h => hk _ h) ?_
 rintro ⟨⟨p, bs, rs⟩, ⟨k, a, b, w⟩⟩ K ⟨hI, hs, h1, h2, h3, h4⟩ h
 refine ⟨Nat.le_of_ble_eq_true rfl, ?_⟩
 have hs1 := hs.1
 have hs2 := hs.2
 dsimp only [ded, encD, enPl, plC] at h1 h2 h3 h4 hs1 hs2 ⊢
 have x1 := ext_push (enc := encI) (d := 0) (l := bs) (x := a) (g := fun i => (fun i => [[AV.int .i64 a]].getD i [.int .i64 0]) (0 + i)) rfl
 have x2 := ext_push (enc := encS) (d := ⟨#[]⟩) (l := rs) (x := w) (g := fun i => (fun i => [[AV.str w]].getD i [.str ⟨#[]⟩]) (0 + i)) rfl
 have y1 := ext_sym x1
 have y2 := ext_sym x2
 repeat' ((conv=>whnf);first|refine vA ?_|with_reducible first|refine v8 ?_|refine Sp.mk ?_ ?_|refine vS ?_|refine vR ?_|refine vB ?_|refine br_nt ?_|refine br_tt ?_|refine br_ff ?_|refine vP ?_|refine vQ ?_|refine vT ?_|refine vF ?_|refine br_and ?_|refine br_or ?_|refine br_d (fun _=>?_) fun _=>?_|refine vM (fun _=>?_) fun _=>?_)
 refine ⟨_, _, [], [], rfl, ?_, ?_, ⟨p, bs, rs⟩, rfl, rfl, ⟨hs⟩, ?_⟩
 ·repeat' ((conv=>whnf);first|with_reducible exact True.intro|exact vW|with_reducible refine And.intro ?_ ?_)
 ·repeat' ((conv=>whnf);first|with_reducible exact True.intro|exact vW|with_reducible refine And.intro ?_ ?_)
 dsimp only [plG, plO]
 repeat' ((conv=>whnf);first|refine vA ?_|with_reducible first|refine v8 ?_|refine Sp.mk ?_ ?_|refine vS ?_|refine vR ?_|refine vB ?_|refine br_nt ?_|refine br_tt ?_|refine br_ff ?_|refine vP ?_|refine vQ ?_|refine vT ?_|refine vF ?_|refine br_and ?_|refine br_or ?_|refine br_d (fun _=>?_) fun _=>?_|refine vM (fun _=>?_) fun _=>?_)
 ·have e := made_0 (x := ⟨p, bs, rs⟩) (k := k) (b := b) (w := w) (a := a) (by assumption) (by assumption) (by assumption)
  replace h : K (enPl (madeP ⟨p, bs, rs⟩ ⟨k, a, b, w⟩)) := h
  rw [e] at h
  refine ⟨_, ?_, h⟩
  repeat' ((conv=>whnf);first|with_reducible exact True.intro|exact vW|with_reducible refine And.intro ?_ ?_)
  all_goals first | exact Chk.mk ⟨rfl, fun i _ => by dsimp only; rw [Nat.zero_add]⟩ | exact Chk.mk y1
 ·rename_i q1 q2 q3
  have e := made_0n (x := ⟨p, bs, rs⟩) (a := a) (b := b) q1 fun q => q3 q.2
  replace h : K (enPl (madeP ⟨p, bs, rs⟩ ⟨k, a, b, w⟩)) := h
  rw [e] at h
  refine ⟨_, ?_, h⟩
  repeat' ((conv=>whnf);first|with_reducible exact True.intro|exact vW|with_reducible refine And.intro ?_ ?_)
 ·rename_i q1 q2
  have e := made_0n (x := ⟨p, bs, rs⟩) (a := a) (b := b) (w := w) q1 fun q => q2 q.1
  replace h : K (enPl (madeP ⟨p, bs, rs⟩ ⟨k, a, b, w⟩)) := h
  rw [e] at h
  refine ⟨_, ?_, h⟩
  repeat' ((conv=>whnf);first|with_reducible exact True.intro|exact vW|with_reducible refine And.intro ?_ ?_)
 ·rename_i q1 q2 q3 q4
  have e := made_1 (x := ⟨p, bs, rs⟩) (w := w) q1 q2 q3
  replace h : K (enPl (madeP ⟨p, bs, rs⟩ ⟨k, a, b, w⟩)) := h
  rw [e] at h
  refine ⟨_, ?_, h⟩
  repeat' ((conv=>whnf);first|with_reducible exact True.intro|exact vW|with_reducible refine And.intro ?_ ?_)
  all_goals first | exact Chk.mk ⟨rfl, fun i _ => by dsimp only; rw [Nat.zero_add]⟩ | exact Chk.mk y2
 ·rename_i hw
  exact absurd rfl hw
 ·rename_i q1 q2 q3
  have e := made_1n (x := ⟨p, bs, rs⟩) (w := w) (a := a) (b := b) q1 fun q => q3 q.2
  replace h : K (enPl (madeP ⟨p, bs, rs⟩ ⟨k, a, b, w⟩)) := h
  rw [e] at h
  refine ⟨_, ?_, h⟩
  repeat' ((conv=>whnf);first|with_reducible exact True.intro|exact vW|with_reducible refine And.intro ?_ ?_)
 ·rename_i q1 q2
  have e := made_1n (x := ⟨p, bs, rs⟩) (w := w) (a := a) (b := b) q1 fun q => q2 q.1
  replace h : K (enPl (madeP ⟨p, bs, rs⟩ ⟨k, a, b, w⟩)) := h
  rw [e] at h
  refine ⟨_, ?_, h⟩
  repeat' ((conv=>whnf);first|with_reducible exact True.intro|exact vW|with_reducible refine And.intro ?_ ?_)
 ·rename_i q1
  refine ⟨⟨⟨p, bs, rs⟩, a, b⟩, ?_, ⟨hI, h2, h3⟩, ?_⟩
  ·repeat' ((conv=>whnf);first|with_reducible exact True.intro|exact vW|with_reducible refine And.intro ?_ ?_)
  dsimp only
  cases hc : consR ⟨p, bs, rs⟩ a b
  ·have e := made_2n (x := ⟨p, bs, rs⟩) (w := w) q1 hc
   repeat' ((conv=>whnf);first|refine vA ?_|with_reducible first|refine v8 ?_|refine Sp.mk ?_ ?_|refine vS ?_|refine vR ?_|refine vB ?_|refine br_nt ?_|refine br_tt ?_|refine br_ff ?_|refine vP ?_|refine vQ ?_|refine vT ?_|refine vF ?_|refine br_and ?_|refine br_or ?_|refine br_d (fun _=>?_) fun _=>?_|refine vM (fun _=>?_) fun _=>?_)
   replace h : K (enPl (madeP ⟨p, bs, rs⟩ ⟨k, a, b, w⟩)) := h
   rw [e] at h
   refine ⟨_, ?_, h⟩
   repeat' ((conv=>whnf);first|with_reducible exact True.intro|exact vW|with_reducible refine And.intro ?_ ?_)
  ·have hr := consR_in hc
   dsimp only at hr
   have y3 := ext_set (x := w) hr.2
   have e := made_2 (x := ⟨p, bs, rs⟩) (w := w) q1 hc
   repeat' ((conv=>whnf);first|refine vA ?_|with_reducible first|refine v8 ?_|refine Sp.mk ?_ ?_|refine vS ?_|refine vR ?_|refine vB ?_|refine br_nt ?_|refine br_tt ?_|refine br_ff ?_|refine vP ?_|refine vQ ?_|refine vT ?_|refine vF ?_|refine br_and ?_|refine br_or ?_|refine br_d (fun _=>?_) fun _=>?_|refine vM (fun _=>?_) fun _=>?_)
   replace h : K (enPl (madeP ⟨p, bs, rs⟩ ⟨k, a, b, w⟩)) := h
   rw [e] at h
   refine ⟨_, ?_, h⟩
   repeat' ((conv=>whnf);first|with_reducible exact True.intro|exact vW|with_reducible refine And.intro ?_ ?_)
   all_goals first | exact Chk.mk ⟨rfl, fun i _ => by dsimp only; rw [Nat.zero_add]⟩ | exact Chk.mk y3
 ·rename_i q1 q2
  refine ⟨⟨⟨p, bs, rs⟩, a, b⟩, ?_, ⟨hI, h2, h3⟩, ?_⟩
  ·repeat' ((conv=>whnf);first|with_reducible exact True.intro|exact vW|with_reducible refine And.intro ?_ ?_)
  dsimp only
  cases hc : consR ⟨p, bs, rs⟩ a b
  ·have e := made_3n (x := ⟨p, bs, rs⟩) (w := w) (a := a) (b := b) q1 fun q => by rw [hc] at q; cases q.2
   repeat' ((conv=>whnf);first|refine vA ?_|with_reducible first|refine v8 ?_|refine Sp.mk ?_ ?_|refine vS ?_|refine vR ?_|refine vB ?_|refine br_nt ?_|refine br_tt ?_|refine br_ff ?_|refine vP ?_|refine vQ ?_|refine vT ?_|refine vF ?_|refine br_and ?_|refine br_or ?_|refine br_d (fun _=>?_) fun _=>?_|refine vM (fun _=>?_) fun _=>?_)
   replace h : K (enPl (madeP ⟨p, bs, rs⟩ ⟨k, a, b, w⟩)) := h
   rw [e] at h
   refine ⟨_, ?_, h⟩
   repeat' ((conv=>whnf);first|with_reducible exact True.intro|exact vW|with_reducible refine And.intro ?_ ?_)
  ·have hr := consR_in hc
   dsimp only at hr
   have y3 := ext_cut hr.2
   have e := made_3 (x := ⟨p, bs, rs⟩) (w := w) q1 q2 hc
   repeat' ((conv=>whnf);first|refine vA ?_|with_reducible first|refine v8 ?_|refine Sp.mk ?_ ?_|refine vS ?_|refine vR ?_|refine vB ?_|refine br_nt ?_|refine br_tt ?_|refine br_ff ?_|refine vP ?_|refine vQ ?_|refine vT ?_|refine vF ?_|refine br_and ?_|refine br_or ?_|refine br_d (fun _=>?_) fun _=>?_|refine vM (fun _=>?_) fun _=>?_)
   have e5 : (a + 1).toNat = a.toNat + 1 := by omega
   have y4 : a.toNat - Int.toNat 0 + ((rs.length : Int).toNat - (a + 1).toNat) = (rs.take a.toNat ++ rs.drop (a.toNat + 1)).length ∧ ∀ i, i < a.toNat - Int.toNat 0 + ((rs.length : Int).toNat - (a + 1).toNat) → appF (a.toNat - Int.toNat 0) (fun i => (fun i => encS (rs.getD i ⟨#[]⟩)) (Int.toNat 0 + i)) (fun i => (fun i => encS (rs.getD i ⟨#[]⟩)) ((a + 1).toNat + i)) (0 + i) = encS ((rs.take a.toNat ++ rs.drop (a.toNat + 1)).getD i ⟨#[]⟩) := by
    rw [e5, show Int.toNat 0 = 0 from rfl, Nat.sub_zero, Int.toNat_natCast]
    simp only [Nat.zero_add] at y3 ⊢
    exact y3
   refine Dr.mk ⟨(.rd 0 (.rd 1 (.rd 3 (.rd 4 (.rd 5 (.rd 6 (.rd 7 (.rd 9 (.rd 10 (.rd 11 (.rd 12 (.rd 13 (.rd 14 (.ef 2 (.ef 8 (.ef 15 (.rd 16 (.ef 17 .dn .no)) .no) .no) .no)))))))))))))), by decide +kernel, ?_⟩
   repeat' ((conv=>whnf);first|refine vA ?_|with_reducible first|refine v8 ?_|refine Sp.mk ?_ ?_|refine vS ?_|refine vR ?_|refine vB ?_|refine br_nt ?_|refine br_tt ?_|refine br_ff ?_|refine vP ?_|refine vQ ?_|refine vT ?_|refine vF ?_|refine br_and ?_|refine br_or ?_|refine br_d (fun _=>?_) fun _=>?_|refine vM (fun _=>?_) fun _=>?_)
   replace h : K (enPl (madeP ⟨p, bs, rs⟩ ⟨k, a, b, w⟩)) := h
   rw [e] at h
   refine ⟨_, ?_, h⟩
   repeat' ((conv=>whnf);first|with_reducible exact True.intro|exact vW|with_reducible refine And.intro ?_ ?_)
   all_goals first | exact Chk.mk ⟨rfl, fun i _ => by dsimp only; rw [Nat.zero_add]⟩ | exact Chk.mk y4
 ·rename_i q1 q2
  have e := made_3n (x := ⟨p, bs, rs⟩) (a := a) (b := b) (w := w) q1 fun q => q2 q.1
  replace h : K (enPl (madeP ⟨p, bs, rs⟩ ⟨k, a, b, w⟩)) := h
  rw [e] at h
  refine ⟨_, ?_, h⟩
  repeat' ((conv=>whnf);first|with_reducible exact True.intro|exact vW|with_reducible refine And.intro ?_ ?_)
 ·have e := made_n (x := ⟨p, bs, rs⟩) (a := a) (b := b) (w := w) (by assumption) (by assumption) (by assumption) (by assumption)
  replace h : K (enPl (madeP ⟨p, bs, rs⟩ ⟨k, a, b, w⟩)) := h
  rw [e] at h
  refine ⟨_, ?_, h⟩
  repeat' ((conv=>whnf);first|with_reducible exact True.intro|exact vW|with_reducible refine And.intro ?_ ?_)
end Go.Proofs.YtkafoolhbflfkaaGreatDoor.Vc
end
section
/- Part TN: a deed at a desk, by the reference. -/
namespace Go.Proofs.YtkafoolhbflfkaaGreatDoor.Vc
open Go.Proofs
set_option maxRecDepth 10000
set_option maxHeartbeats 4000000
def deG (d : Desk) : AV := .agg [.int .i64 d.now.p, slI d.now.bs, slS d.now.rules, .row 0 3 0 d.past.length]
def psO (l : List Place) : Obj := .row 3 l.length fun i => plC (l.getD i default)
def shortD (d : Desk) : Prop := shortP d.now ∧ d.past.length ≤ 100000 ∧ ∀ p ∈ d.past, shortP p
def C198 : GC := conG (X := Desk) (fun d => [enDe d]) (fun _ => []) shortD fun d K => K (deG d) [psO d.past]
theorem F198 : GG 109 C198 := by
 refine fitG [(135, C158)] (by simp only [List.mem_cons, List.not_mem_nil, or_false]; rintro _ rfl <;> first | exact F158) [] (by simp) Tryz.f109 ⟨rfl, by decide +kernel, by decide +kernel⟩ (by intro x K K2 hk h; (try dsimp only at h ⊢); intros; apply hk; first | exact h | (apply h <;> assumption)) ?_
 rintro ⟨⟨p, bs, rs⟩, l⟩ K ⟨h1, h2, h3⟩ h
 refine ⟨Nat.le_of_ble_eq_true rfl, ?_⟩
 unfold deG psO at h
 dsimp only [enDe, deC] at h h1 h2 h3 ⊢
 repeat' ((conv=>whnf);first|refine vA ?_|with_reducible first|refine v8 ?_|refine Sp.mk ?_ ?_|refine vS ?_|refine vR ?_|refine vB ?_|refine br_nt ?_|refine br_tt ?_|refine br_ff ?_|refine vP ?_|refine vQ ?_|refine vT ?_|refine vF ?_|refine br_and ?_|refine br_or ?_|refine br_d (fun _=>?_) fun _=>?_|refine vM (fun _=>?_) fun _=>?_)
 refine ⟨⟨p, bs, rs⟩, ?_, ⟨h1⟩, ?_⟩
 ·repeat' ((conv=>whnf);first|with_reducible exact True.intro|exact vW|with_reducible refine And.intro ?_ ?_)
 dsimp only [enPl, plC]
 repeat' ((conv=>whnf);first|refine vA ?_|with_reducible first|refine v8 ?_|refine Sp.mk ?_ ?_|refine vS ?_|refine vR ?_|refine vB ?_|refine br_nt ?_|refine br_tt ?_|refine br_ff ?_|refine vP ?_|refine vQ ?_|refine vT ?_|refine vF ?_|refine br_and ?_|refine br_or ?_|refine br_d (fun _=>?_) fun _=>?_|refine vM (fun _=>?_) fun _=>?_)
 refine Lp.mk ⟨Nat, fun i => [(1, .ptr 0 0), (2, .ptr 1 0), (3, .ptr 2 0), (4, .int .i64 i)], fun i => [.box (deC ⟨⟨p, bs, rs⟩, l⟩), .box [.int .i64 0, .nils, .nils, .nils], .box [.int .i64 p, slI bs, slS rs, .row 3 3 0 (l.take i).length], psO (l.take i)], fun i => i ≤ l.length, fun i => l.length - i, ⟨0, Nat.zero_le _, ⟨⟨[some 0, some 1, some 2, none], [], rfl, rfl, ?_, ?_⟩⟩⟩, ?_⟩
 ·repeat' ((conv=>whnf);first|with_reducible exact True.intro|exact vW|with_reducible refine And.intro ?_ ?_)
 ·repeat' ((conv=>whnf);first|with_reducible exact True.intro|exact vW|with_reducible refine And.intro ?_ ?_)
 intro i i1
 dsimp only [deC, psO]
 have hti : (l.take i).length ≤ 100000 := by rw [List.length_take]; omega
 repeat' ((conv=>whnf);first|refine vA ?_|with_reducible first|refine v8 ?_|refine Sp.mk ?_ ?_|refine vS ?_|refine vR ?_|refine vB ?_|refine br_nt ?_|refine br_tt ?_|refine br_ff ?_|refine vP ?_|refine vQ ?_|refine vT ?_|refine vF ?_|refine br_and ?_|refine br_or ?_|refine br_d (fun _=>?_) fun _=>?_|refine vM (fun _=>?_) fun _=>?_)
 ·rename_i hi
  have hi : i < l.length := by omega
  have hsn : l.take (i + 1) = l.take i ++ [l.getD i default] := take_succ' default hi
  refine Dr.mk ⟨(.rd 0 (.rd 1 (.rd 2 (.rd 3 (.rd 4 (.rd 5 (.rd 6 (.ef 7 (.ef 8 (.ef 9 (.rd 10 (.ef 11 .dn .no)) .no) .no) .no)))))))), by decide +kernel, ?_⟩
  repeat' ((conv=>whnf);first|refine vA ?_|with_reducible first|refine v8 ?_|refine Sp.mk ?_ ?_|refine vS ?_|refine vR ?_|refine vB ?_|refine br_nt ?_|refine br_tt ?_|refine br_ff ?_|refine vP ?_|refine vQ ?_|refine vT ?_|refine vF ?_|refine br_and ?_|refine br_or ?_|refine br_d (fun _=>?_) fun _=>?_|refine vM (fun _=>?_) fun _=>?_)
  refine ⟨l.getD i default, ?_, ⟨h3 _ (getD_mem' hi)⟩, ?_⟩
  ·repeat' ((conv=>whnf);first|with_reducible exact True.intro|exact vW|with_reducible refine And.intro ?_ ?_)
  dsimp only [enPl, plC]
  repeat' ((conv=>whnf);first|refine vA ?_|with_reducible first|refine v8 ?_|refine Sp.mk ?_ ?_|refine vS ?_|refine vR ?_|refine vB ?_|refine br_nt ?_|refine br_tt ?_|refine br_ff ?_|refine vP ?_|refine vQ ?_|refine vT ?_|refine vF ?_|refine br_and ?_|refine br_or ?_|refine br_d (fun _=>?_) fun _=>?_|refine vM (fun _=>?_) fun _=>?_)
  refine ⟨i + 1, by omega, by omega, ⟨⟨[some 0, some 1, some 2, some 5], [], rfl, rfl, ?_, ?_⟩⟩⟩
  ·repeat' ((conv=>whnf);first|with_reducible exact True.intro|exact vW|with_reducible refine And.intro ?_ ?_)
  ·repeat' ((conv=>whnf);first|with_reducible exact True.intro|exact vW|with_reducible refine And.intro ?_ ?_)
   all_goals first | exact Chk.mk ⟨rfl, by rw [hsn, List.length_append]; rfl⟩ | exact Chk.mk (by rw [hsn]; exact ext_push (enc := plC) (d := default) (l := l.take i) (x := l.getD i default) rfl)
 ·rename_i hi
  rw [List.take_of_length_le (by omega)]
  repeat' ((conv=>whnf);first|refine vA ?_|with_reducible first|refine v8 ?_|refine Sp.mk ?_ ?_|refine vS ?_|refine vR ?_|refine vB ?_|refine br_nt ?_|refine br_tt ?_|refine br_ff ?_|refine vP ?_|refine vQ ?_|refine vT ?_|refine vF ?_|refine br_and ?_|refine br_or ?_|refine br_d (fun _=>?_) fun _=>?_|refine vM (fun _=>?_) fun _=>?_)
  refine ⟨_, _, [some 3], [], rfl, rfl, ?_, ?_, h⟩
  ·repeat' ((conv=>whnf);first|with_reducible exact True.intro|exact vW|with_reducible refine And.intro ?_ ?_)
  ·repeat' ((conv=>whnf);first|with_reducible exact True.intro|exact vW|with_reducible refine And.intro ?_ ?_)
def backD : Dd := ⟨4, 0, 0, ⟨#[]⟩⟩
def pushP (l : List Place) (x : Place) : List Place := if 8 < (l ++ [x]).length then (l ++ [x]).drop 1 else l ++ [x]
def doD (d : Desk) (a : Dd) : Option Desk :=
 if a = backD ∧ 0 < d.past.length then some ⟨d.past.getD (d.past.length - 1) default, d.past.take (d.past.length - 1)⟩
 else if placeOk (madeP d.now a) ∧ ptext (madeP d.now a) ≠ ptext d.now then some ⟨madeP d.now a, pushP d.past d.now⟩ else none
def afterD (d : Desk) (a : Dd) : Desk := if deskOk d then (doD d a).getD d else default
def canD (d : Desk) (a : Dd) : Bool := decide (deskOk d) && (doD d a).isSome
structure De where
 d : Desk
 a : Dd
def C183 : List AV → (AV → Prop) → Prop := con (X := De) (fun x => [enDe x.d, ded x.a]) (fun x => deskI x.d ∧ dedI x.a) fun x K => K (.tup [enDe (afterD x.d x.a), .bool (canD x.d x.a)])
theorem deskOk_short {d : Desk} (h : deskOk d) : shortD d := ⟨placeOk_short h.1, Nat.le_trans h.2.1 (by decide), fun p hp => placeOk_short (h.2.2 p hp)⟩
theorem placeI0 : placeI default := ⟨⟨⟨⟨by decide, by decide⟩, fun _ hb => by cases hb⟩, by decide⟩, by decide, fun _ hb => by cases hb⟩
theorem madeP_I {x : Place} {a : Dd} (h : placeI x) (hs : shortP x) (ha : dedI a) : placeI (madeP x a) := by
 obtain ⟨⟨h1, h2⟩, h3, h4⟩ := h
 have s1 := hs.1
 have s2 := hs.2
 have b2 := h1.2
 unfold madeP
 split
 ·refine ⟨⟨⟨h1.1, fun b hb => (List.mem_append.1 hb).elim (fun hb => b2 b hb) fun hb => by rw [List.mem_singleton.1 hb]; exact ha.2.1⟩, ?_⟩, h3, h4⟩
  show (x.bs ++ [a.a]).length < _
  simp only [List.length_append, List.length_cons, List.length_nil]
  omega
 ·split
  ·refine ⟨⟨h1, h2⟩, ?_, fun r hr => (List.mem_append.1 hr).elim (fun hr => h4 r hr) fun hr => by rw [List.mem_singleton.1 hr]; exact ha.2.2.2⟩
   show (x.rules ++ [a.words]).length < _
   simp only [List.length_append, List.length_cons, List.length_nil]
   omega
  ·split
   ·refine ⟨⟨h1, h2⟩, by show (x.rules.set _ _).length < _; rw [List.length_set]; exact h3, fun r hr => (List.mem_or_eq_of_mem_set hr).elim (fun hr => h4 r hr) fun hr => by rw [hr]; exact ha.2.2.2⟩
   ·split
    ·refine ⟨⟨h1, h2⟩, ?_, fun r hr => (List.mem_append.1 hr).elim (fun hr => h4 r (List.mem_of_mem_take hr)) fun hr => h4 r (List.mem_of_mem_drop hr)⟩
     show (x.rules.take _ ++ x.rules.drop _).length < _
     simp only [List.length_append, List.length_take, List.length_drop]
     omega
    ·exact placeI0
theorem ext_take {α : Type} {enc : α → List AV} {d : α} {l : List α} {n : Nat} (hn : n ≤ l.length) : n - Int.toNat 0 = (l.take n).length ∧ ∀ i, i < n - Int.toNat 0 → enc (l.getD (0 + Int.toNat 0 + i) d) = enc ((l.take n).getD i d) := by
 refine ⟨by rw [List.length_take]; show n - 0 = _; omega, fun i hi => ?_⟩
 rw [show 0 + Int.toNat 0 + i = i by show 0 + 0 + i = i; omega, List.getD_eq_getElem?_getD, List.getD_eq_getElem?_getD, List.getElem?_take_of_lt (by exact hi)]
theorem ext_pushV {α : Type} {enc : α → List AV} {d : α} {l : List α} {x : α} {g : Nat → List AV} (hg : g 0 = enc x) : l.length + 1 = (l ++ [x]).length ∧ ∀ i, i < l.length + 1 → appF l.length (fun i => enc (l.getD i d)) g (0 + i) = enc ((l ++ [x]).getD i d) := by
 have h := ext_push (enc := enc) (d := d) (l := l) (x := x) (g := g) hg
 refine ⟨h.1.symm, fun i hi => ?_⟩
 rw [Nat.zero_add]
 exact (h.2 i (by rw [h.1]; exact hi)).symm
theorem ext_dropV {α : Type} {enc : α → List AV} {d : α} {l : List α} {x : α} {g : Nat → List AV} (hg : g 0 = enc x) : ((l.length + 1 : Nat) : Int).toNat - Int.toNat 1 = ((l ++ [x]).drop 1).length ∧ ∀ i, i < ((l.length + 1 : Nat) : Int).toNat - Int.toNat 1 → appF l.length (fun i => enc (l.getD i d)) g (0 + Int.toNat 1 + i) = enc (((l ++ [x]).drop 1).getD i d) := by
 have h := ext_push (enc := enc) (d := d) (l := l) (x := x) (g := g) hg
 refine ⟨by rw [List.length_drop, h.1]; rfl, fun i hi => ?_⟩
 have e : ((l.length + 1 : Nat) : Int).toNat - Int.toNat 1 = l.length := rfl
 rw [e] at hi
 rw [show 0 + Int.toNat 1 + i = 1 + i by rw [Nat.zero_add]; rfl, List.getD_eq_getElem?_getD (l := (l ++ [x]).drop 1), List.getElem?_drop, ← List.getD_eq_getElem?_getD]
 exact (h.2 (1 + i) (by rw [h.1]; omega)).symm
theorem afterD_some {d e : Desk} {a : Dd} (h : deskOk d) (he : doD d a = some e) : afterD d a = e := by
 unfold afterD
 rw [if_pos h, he]
 rfl
theorem canD_some {d e : Desk} {a : Dd} (h : deskOk d) (he : doD d a = some e) : canD d a = true := by
 unfold canD
 rw [decide_eq_true h, he]
 rfl
theorem afterD_none {d : Desk} {a : Dd} (h : deskOk d) (he : doD d a = none) : afterD d a = d := by
 unfold afterD
 rw [if_pos h, he]
 rfl
theorem canD_none {d : Desk} {a : Dd} (he : doD d a = none) : canD d a = false := by
 unfold canD
 rw [he]
 simp
theorem F183 : FF 73 C183 := by
 refine fitXE [(108, C139), (110, C199), (68, C127), (69, C142)] (by simp only [List.mem_cons, List.not_mem_nil, or_false]; rintro _ (rfl | rfl | rfl | rfl) <;> first | exact F139 | exact F199 | exact F127 | exact F142) [(109, C198)] (by simp only [List.mem_cons, List.not_mem_nil, or_false]; rintro _ rfl; exact F198) Tryz.f73 ⟨rfl, by decide +kernel, by decide +kernel⟩ (fun _ _ _ hk h => hk _ h) ?_
 rintro ⟨⟨⟨p, bs, rs⟩, l⟩, ⟨k, a, b, w⟩⟩ K ⟨hI, ha⟩ h
 refine ⟨Nat.le_of_ble_eq_true rfl, ?_⟩
 dsimp only [enDe, deC, ded, encD] at hI ha ⊢
 repeat' ((conv=>whnf);first|refine vA ?_|with_reducible first|refine v8 ?_|refine Sp.mk ?_ ?_|refine vS ?_|refine vR ?_|refine vB ?_|refine br_nt ?_|refine br_tt ?_|refine br_ff ?_|refine vP ?_|refine vQ ?_|refine vT ?_|refine vF ?_|refine br_and ?_|refine br_or ?_|refine br_d (fun _=>?_) fun _=>?_|refine vM (fun _=>?_) fun _=>?_)
 refine ⟨⟨⟨p, bs, rs⟩, l⟩, ?_, ⟨hI⟩, ?_⟩
 ·repeat' ((conv=>whnf);first|with_reducible exact True.intro|exact vW|with_reducible refine And.intro ?_ ?_)
 by_cases hO : deskOk ⟨⟨p, bs, rs⟩, l⟩
 ·have hs := deskOk_short hO
  have hs2 := hs.2.1
  dsimp only at hs2
  repeat' ((conv=>whnf);first|refine vA ?_|with_reducible first|refine v8 ?_|refine Sp.mk ?_ ?_|refine vS ?_|refine vR ?_|refine vB ?_|refine br_nt ?_|refine br_tt ?_|refine br_ff ?_|refine vP ?_|refine vQ ?_|refine vT ?_|refine vF ?_|refine br_and ?_|refine br_or ?_|refine br_d (fun _=>?_) fun _=>?_|refine vM (fun _=>?_) fun _=>?_)
  refine ⟨_, _, [], [], rfl, ?_, ?_, ⟨⟨p, bs, rs⟩, l⟩, rfl, rfl, ⟨hs⟩, ?_⟩
  ·repeat' ((conv=>whnf);first|with_reducible exact True.intro|exact vW|with_reducible refine And.intro ?_ ?_)
  ·repeat' ((conv=>whnf);first|with_reducible exact True.intro|exact vW|with_reducible refine And.intro ?_ ?_)
  dsimp only [deG, psO]
  repeat' ((conv=>whnf);first|with_reducible refine wk_at 9 ?_|with_reducible refine wk_at1 9 ?_|with_reducible refine wk_at2 9 ?_|refine vA ?_|with_reducible first|refine v8 ?_|refine Sp.mk ?_ ?_|refine vS ?_|refine vR ?_|refine vB ?_|refine br_nt ?_|refine br_tt ?_|refine br_ff ?_|refine vP ?_|refine vQ ?_|refine vT ?_|refine vF ?_|refine br_and ?_|refine br_or ?_|refine br_d (fun _=>?_) fun _=>?_|refine vM (fun _=>?_) fun _=>?_)
  ·rename_i q1 q2 q3 q4 q5
   have hl : 0 < l.length := by omega
   have e0 : doD ⟨⟨p, bs, rs⟩, l⟩ ⟨k, a, b, w⟩ = some ⟨l.getD (l.length - 1) default, l.take (l.length - 1)⟩ := if_pos ⟨by subst q1; subst q2; subst q3; subst q4; rfl, hl⟩
   replace h : K (.tup [enDe (afterD ⟨⟨p, bs, rs⟩, l⟩ ⟨k, a, b, w⟩), .bool (canD ⟨⟨p, bs, rs⟩, l⟩ ⟨k, a, b, w⟩)]) := h
   rw [afterD_some hO e0, canD_some hO e0] at h
   have e1 : ((l.length : Int) - 1).toNat = l.length - 1 := by omega
   refine ⟨_, ?_, h⟩
   rw [e1, Nat.zero_add]
   repeat' ((conv=>whnf);first|with_reducible exact True.intro|exact vW|with_reducible refine And.intro ?_ ?_)
   all_goals exact Chk.mk (ext_take (enc := plC) (d := default) (l := l) (n := l.length - 1) (by omega))
  all_goals
   have hnb : ¬ ((⟨k, a, b, w⟩ : Dd) = backD ∧ 0 < l.length) := by
    rintro ⟨e, e2⟩
    have e3 := congrArg Dd.kind e
    have e4 := congrArg Dd.a e
    have e5 := congrArg Dd.b e
    have e6 := congrArg Dd.words e
    dsimp only [backD] at e3 e4 e5 e6
    first | omega | exact absurd e6 (by assumption)
   refine ⟨Wk.go [(2, .ptr 0 0), (3, .ptr 1 0), (4, .ptr 2 0), (6, .ptr 3 0)] [.box (deC ⟨⟨p, bs, rs⟩, l⟩), .box (encD ⟨k, a, b, w⟩), .box [.int .i64 0, .nils, .nils, .nils], .box [.int .i64 p, slI bs, slS rs, .row 4 3 0 l.length], psO l] ⟨⟨[some 0, some 1, some 2, some 4, some 3], [], rfl, rfl, ?_, ?_⟩⟩ ?_⟩
   ·repeat' ((conv=>whnf);first|with_reducible exact True.intro|exact vW|with_reducible refine And.intro ?_ ?_)
   ·repeat' ((conv=>whnf);first|with_reducible exact True.intro|exact vW|with_reducible refine And.intro ?_ ?_)
   dsimp only [deC, encD, psO]
   repeat' ((conv=>whnf);first|refine vA ?_|with_reducible first|refine v8 ?_|refine Sp.mk ?_ ?_|refine vS ?_|refine vR ?_|refine vB ?_|refine br_nt ?_|refine br_tt ?_|refine br_ff ?_|refine vP ?_|refine vQ ?_|refine vT ?_|refine vF ?_|refine br_and ?_|refine br_or ?_|refine br_d (fun _=>?_) fun _=>?_|refine vM (fun _=>?_) fun _=>?_)
   refine ⟨⟨⟨p, bs, rs⟩, ⟨k, a, b, w⟩⟩, ?_, ⟨hI.1, hs.1, ha⟩, ?_⟩
   ·repeat' ((conv=>whnf);first|with_reducible exact True.intro|exact vW|with_reducible refine And.intro ?_ ?_)
   have hMI := madeP_I (a := ⟨k, a, b, w⟩) hI.1 hs.1 ha
   replace h : K (.tup [enDe (afterD ⟨⟨p, bs, rs⟩, l⟩ ⟨k, a, b, w⟩), .bool (canD ⟨⟨p, bs, rs⟩, l⟩ ⟨k, a, b, w⟩)]) := h
   have eD : doD ⟨⟨p, bs, rs⟩, l⟩ ⟨k, a, b, w⟩ = _ := if_neg hnb
   dsimp only at hMI eD ⊢
   generalize madeP ⟨p, bs, rs⟩ ⟨k, a, b, w⟩ = M at hMI eD ⊢
   obtain ⟨mp, mb, mr⟩ := M
   dsimp only [enPl, plC]
   repeat' ((conv=>whnf);first|refine vA ?_|with_reducible first|refine v8 ?_|refine Sp.mk ?_ ?_|refine vS ?_|refine vR ?_|refine vB ?_|refine br_nt ?_|refine br_tt ?_|refine br_ff ?_|refine vP ?_|refine vQ ?_|refine vT ?_|refine vF ?_|refine br_and ?_|refine br_or ?_|refine br_d (fun _=>?_) fun _=>?_|refine vM (fun _=>?_) fun _=>?_)
   refine Dr.mk ⟨(.rd 0 (.ef 1 (.rd 2 (.rd 3 (.rd 4 (.rd 6 (.rd 7 (.ef 5 (.ef 8 (.rd 9 (.rd 10 .dn)) .no) .no)))))) .no)), by decide +kernel, ?_⟩
   repeat' ((conv=>whnf);first|refine vA ?_|with_reducible first|refine v8 ?_|refine Sp.mk ?_ ?_|refine vS ?_|refine vR ?_|refine vB ?_|refine br_nt ?_|refine br_tt ?_|refine br_ff ?_|refine vP ?_|refine vQ ?_|refine vT ?_|refine vF ?_|refine br_and ?_|refine br_or ?_|refine br_d (fun _=>?_) fun _=>?_|refine vM (fun _=>?_) fun _=>?_)
   refine ⟨⟨mp, mb, mr⟩, ?_, ⟨hMI⟩, ?_⟩
   ·repeat' ((conv=>whnf);first|with_reducible exact True.intro|exact vW|with_reducible refine And.intro ?_ ?_)
   repeat' ((conv=>whnf);first|refine vA ?_|with_reducible first|refine v8 ?_|refine Sp.mk ?_ ?_|refine vS ?_|refine vR ?_|refine vB ?_|refine br_nt ?_|refine br_tt ?_|refine br_ff ?_|refine vP ?_|refine vQ ?_|refine vT ?_|refine vF ?_|refine br_and ?_|refine br_or ?_|refine br_d (fun _=>?_) fun _=>?_|refine vM (fun _=>?_) fun _=>?_)
   ·rename_i hp
    replace hp : placeOk ⟨mp, mb, mr⟩ := hp
    refine ⟨⟨mp, mb, mr⟩, ?_, ⟨hMI⟩, ?_⟩
    ·repeat' ((conv=>whnf);first|with_reducible exact True.intro|exact vW|with_reducible refine And.intro ?_ ?_)
    repeat' ((conv=>whnf);first|refine vA ?_|with_reducible first|refine v8 ?_|refine Sp.mk ?_ ?_|refine vS ?_|refine vR ?_|refine vB ?_|refine br_nt ?_|refine br_tt ?_|refine br_ff ?_|refine vP ?_|refine vQ ?_|refine vT ?_|refine vF ?_|refine br_and ?_|refine br_or ?_|refine br_d (fun _=>?_) fun _=>?_|refine vM (fun _=>?_) fun _=>?_)
    refine ⟨⟨p, bs, rs⟩, ?_, ⟨hI.1⟩, ?_⟩
    ·repeat' ((conv=>whnf);first|with_reducible exact True.intro|exact vW|with_reducible refine And.intro ?_ ?_)
    by_cases he : ptext ⟨mp, mb, mr⟩ = ptext ⟨p, bs, rs⟩
    ·replace eD : doD ⟨⟨p, bs, rs⟩, l⟩ ⟨k, a, b, w⟩ = none := eD.trans (if_neg fun q => q.2 he)
     rw [afterD_none hO eD, canD_none eD] at h
     repeat' ((conv=>whnf);first|refine vA ?_|with_reducible first|refine v8 ?_|refine Sp.mk ?_ ?_|refine vS ?_|refine vR ?_|refine vB ?_|refine br_nt ?_|refine br_tt ?_|refine br_ff ?_|refine vP ?_|refine vQ ?_|refine vT ?_|refine vF ?_|refine br_and ?_|refine br_or ?_|refine br_d (fun _=>?_) fun _=>?_|refine vM (fun _=>?_) fun _=>?_)
     refine ⟨_, ?_, h⟩
     repeat' ((conv=>whnf);first|with_reducible exact True.intro|exact vW|with_reducible refine And.intro ?_ ?_)
     all_goals exact Chk.mk ⟨rfl, fun i _ => by dsimp only; rw [Nat.zero_add]; rfl⟩
    ·replace eD : doD ⟨⟨p, bs, rs⟩, l⟩ ⟨k, a, b, w⟩ = some ⟨⟨mp, mb, mr⟩, pushP l ⟨p, bs, rs⟩⟩ := eD.trans (if_pos ⟨hp, he⟩)
     rw [afterD_some hO eD, canD_some hO eD] at h
     by_cases h8 : 8 < (l ++ [(⟨p, bs, rs⟩ : Place)]).length
     ·rw [show pushP l ⟨p, bs, rs⟩ = (l ++ [(⟨p, bs, rs⟩ : Place)]).drop 1 from if_pos h8] at h
      simp only [List.length_append, List.length_cons, List.length_nil] at h8
      repeat' ((conv=>whnf);first|refine vA ?_|with_reducible first|refine v8 ?_|refine Sp.mk ?_ ?_|refine vS ?_|refine vR ?_|refine vB ?_|refine br_nt ?_|refine br_tt ?_|refine br_ff ?_|refine vP ?_|refine vQ ?_|refine vT ?_|refine vF ?_|refine br_and ?_|refine br_or ?_|refine br_d (fun _=>?_) fun _=>?_|refine vM (fun _=>?_) fun _=>?_)
      first
      |refine ⟨_, ?_, h⟩
      |refine ⟨Chk.mk ⟨⟨by show 0 + 1 + (l.length + 1 - 1) ≤ l.length + 1; omega, trivial⟩, trivial⟩, _, ?_, h⟩
      repeat' ((conv=>whnf);first|with_reducible exact True.intro|exact vW|with_reducible refine And.intro ?_ ?_)
      all_goals exact Chk.mk (ext_dropV (enc := plC) (d := default) (l := l) (x := ⟨p, bs, rs⟩) rfl)
     ·rw [show pushP l ⟨p, bs, rs⟩ = l ++ [(⟨p, bs, rs⟩ : Place)] from if_neg h8] at h
      simp only [List.length_append, List.length_cons, List.length_nil] at h8
      repeat' ((conv=>whnf);first|refine vA ?_|with_reducible first|refine v8 ?_|refine Sp.mk ?_ ?_|refine vS ?_|refine vR ?_|refine vB ?_|refine br_nt ?_|refine br_tt ?_|refine br_ff ?_|refine vP ?_|refine vQ ?_|refine vT ?_|refine vF ?_|refine br_and ?_|refine br_or ?_|refine br_d (fun _=>?_) fun _=>?_|refine vM (fun _=>?_) fun _=>?_)
      refine ⟨_, ?_, h⟩
      repeat' ((conv=>whnf);first|with_reducible exact True.intro|exact vW|with_reducible refine And.intro ?_ ?_)
      all_goals exact Chk.mk (ext_pushV (enc := plC) (d := default) (l := l) (x := ⟨p, bs, rs⟩) rfl)
   ·rename_i hp
    replace hp : ¬ placeOk ⟨mp, mb, mr⟩ := hp
    replace eD : doD ⟨⟨p, bs, rs⟩, l⟩ ⟨k, a, b, w⟩ = none := eD.trans (if_neg fun q => hp q.1)
    rw [afterD_none hO eD, canD_none eD] at h
    refine ⟨_, ?_, h⟩
    repeat' ((conv=>whnf);first|with_reducible exact True.intro|exact vW|with_reducible refine And.intro ?_ ?_)
    all_goals exact Chk.mk ⟨rfl, fun i _ => by dsimp only; rw [Nat.zero_add]; rfl⟩
 ·replace h : K (.tup [enDe (afterD ⟨⟨p, bs, rs⟩, l⟩ ⟨k, a, b, w⟩), .bool (canD ⟨⟨p, bs, rs⟩, l⟩ ⟨k, a, b, w⟩)]) := h
  rw [show afterD ⟨⟨p, bs, rs⟩, l⟩ ⟨k, a, b, w⟩ = default from if_neg hO, show canD ⟨⟨p, bs, rs⟩, l⟩ ⟨k, a, b, w⟩ = false by unfold canD; rw [decide_eq_false hO]; rfl] at h
  repeat' ((conv=>whnf);first|refine vA ?_|with_reducible first|refine v8 ?_|refine Sp.mk ?_ ?_|refine vS ?_|refine vR ?_|refine vB ?_|refine br_nt ?_|refine br_tt ?_|refine br_ff ?_|refine vP ?_|refine vQ ?_|refine vT ?_|refine vF ?_|refine br_and ?_|refine br_or ?_|refine br_d (fun _=>?_) fun _=>?_|refine vM (fun _=>?_) fun _=>?_)
  refine ⟨_, ?_, h⟩
  repeat' ((conv=>whnf);first|with_reducible exact True.intro|exact vW|with_reducible refine And.intro ?_ ?_)
end Go.Proofs.YtkafoolhbflfkaaGreatDoor.Vc
end
section
/- Part TO: deeds and desks that are drawn. -/
namespace Go.Proofs.YtkafoolhbflfkaaGreatDoor.Vc
open Go.Proofs
set_option maxRecDepth 10000
set_option maxHeartbeats 4000000
structure drawnA (a : Dd) : Prop where
 k0 : i64r a.kind
 a0 : i64r a.a
 b0 : i64r a.b
 w0 : a.words.size ≤ 10000
def placeS (x : Place) : Prop := placeI x ∧ x.bs.length ≤ 4 ∧ x.rules.length ≤ 100000
structure Pr where
 r : Rd
 x : Place
theorem kt {k : Int} (h0 : 0 ≤ k) (h : k < 8) (z : List AV) : ∃ v, 0 ≤ v ∧ v ≤ 4 ∧ [[AV.int .i64 0], [.int .i64 1], [.int .i64 2], [.int .i64 2], [.int .i64 2], [.int .i64 2], [.int .i64 3], [.int .i64 4]].getD (0 + k.toNat) z = [.int .i64 v] := by
 rcases (show k = 0 ∨ k = 1 ∨ k = 2 ∨ k = 3 ∨ k = 4 ∨ k = 5 ∨ k = 6 ∨ k = 7 by omega) with rfl | rfl | rfl | rfl | rfl | rfl | rfl | rfl <;> exact ⟨_, by decide, by decide, rfl⟩
def C184 : GC := conG (X := Pr) (fun x => [.ptr 0 0, enPl x.x]) (fun x => [rdO x.r.b x.r.p]) (fun x => x.r.okn 450000000 ∧ placeS x.x) fun x K => ∀ (a : Dd) (p' : Int), x.r.p ≤ p' → p' ≤ x.r.p + 250 → drawnA a → K (ded a) [rdO x.r.b p']
theorem F184 : GG 82 C184 := by
 refine fitG [(95, C173)] (by simp only [List.mem_cons, List.not_mem_nil, or_false]; rintro _ rfl <;> first | exact F173) [(64, C52), (89, C53), (96, C60)] (by simp only [List.mem_cons, List.not_mem_nil, or_false]; rintro _ (rfl | rfl | rfl) <;> first | exact F52 | exact F53 | exact F60) Tryz.f82 ⟨rfl, by decide +kernel, by decide +kernel⟩ (by intro x K K2 hk h; (try dsimp only at h ⊢); intros; apply hk; first | exact h | (apply h <;> assumption)) ?_
 rintro ⟨⟨b, p⟩, ⟨q, bs, rs⟩⟩ K ⟨⟨h1, h2, h3, h4⟩, h5, h6, h7⟩ h
 refine ⟨Nat.le_of_ble_eq_true rfl, ?_⟩
 dsimp only [enPl, plC] at h h1 h2 h3 h4 h5 h6 h7 ⊢
 apply later
 ·intro key1
  repeat' ((conv=>whnf);first|refine vA ?_|with_reducible first|refine v8 ?_|refine Sp.mk ?_ ?_|refine vS ?_|refine vR ?_|refine vB ?_|refine br_nt ?_|refine br_tt ?_|refine br_ff ?_|refine vP ?_|refine vQ ?_|refine vT ?_|refine vF ?_|refine br_and ?_|refine br_or ?_|refine br_d (fun _=>?_) fun _=>?_|refine vM (fun _=>?_) fun _=>?_)
  refine Dr.mk ⟨(.rd 1 (.rd 5 (.ef 0 (.ef 2 (.rd 3 (.rd 4 (.ef 6 (.rd 7 (.rd 8 (.rd 9 (.rd 10 (.ef 11 (.ef 12 .dn .no) .no))))) (.ef 11 (.ef 6 (.rd 7 (.rd 8 (.rd 9 (.rd 10 (.ef 12 .dn .no))))) .no) .no)))) (.ef 11 (.ef 2 (.rd 3 (.rd 4 (.ef 6 (.rd 7 (.rd 8 (.rd 9 (.rd 10 (.ef 12 .dn .no))))) .no))) .no) .no)) (.ef 2 (.ef 0 (.rd 3 (.rd 4 (.ef 6 (.rd 7 (.rd 8 (.rd 9 (.rd 10 (.ef 11 (.ef 12 .dn .no) .no))))) (.ef 11 (.ef 6 (.rd 7 (.rd 8 (.rd 9 (.rd 10 (.ef 12 .dn .no))))) .no) .no)))) (.ef 6 (.rd 7 (.rd 8 (.ef 0 (.rd 3 (.rd 4 (.rd 9 (.rd 10 (.ef 11 (.ef 12 .dn .no) .no))))) (.ef 11 (.ef 0 (.rd 3 (.rd 4 (.rd 9 (.rd 10 (.ef 12 .dn .no))))) .no) .no)))) (.ef 11 (.ef 0 (.rd 3 (.rd 4 (.ef 6 (.rd 7 (.rd 8 (.rd 9 (.rd 10 (.ef 12 .dn .no))))) .no))) (.ef 6 (.rd 7 (.rd 8 (.ef 0 (.rd 3 (.rd 4 (.rd 9 (.rd 10 (.ef 12 .dn .no))))) .no))) .no)) .no))) (.ef 11 (.ef 0 (.ef 2 (.rd 3 (.rd 4 (.ef 6 (.rd 7 (.rd 8 (.rd 9 (.rd 10 (.ef 12 .dn .no))))) .no))) .no) (.ef 2 (.ef 0 (.rd 3 (.rd 4 (.ef 6 (.rd 7 (.rd 8 (.rd 9 (.rd 10 (.ef 12 .dn .no))))) .no))) (.ef 6 (.rd 7 (.rd 8 (.ef 0 (.rd 3 (.rd 4 (.rd 9 (.rd 10 (.ef 12 .dn .no))))) .no))) .no)) .no)) .no))))), by decide +kernel, ?_⟩
  repeat' ((conv=>whnf);first|refine vA ?_|with_reducible first|refine v8 ?_|refine Sp.mk ?_ ?_|refine vS ?_|refine vR ?_|refine vB ?_|refine br_nt ?_|refine br_tt ?_|refine br_ff ?_|refine vP ?_|refine vQ ?_|refine vT ?_|refine vF ?_|refine br_and ?_|refine br_or ?_|refine br_d (fun _=>?_) fun _=>?_|refine vM (fun _=>?_) fun _=>?_)
  all_goals
   refine ⟨_, _, [0], [], rfl, ?_, ?_, (⟨b, p⟩, 8), rfl, rfl, ⟨⟨h1, h2, ?_, ?_⟩, ?_⟩, ?_⟩
   ·repeat' ((conv=>whnf);first|with_reducible exact True.intro|exact vW|with_reducible refine And.intro ?_ ?_)
    try exact Chk.mk (by rw [pw_sh (by assumption)])
   ·repeat' ((conv=>whnf);first|with_reducible exact True.intro|exact vW|with_reducible refine And.intro ?_ ?_)
   ·dsimp only; omega
   ·dsimp only; omega
   ·unfold i64r; dsimp only; omega
   intro k1 p1 a0 a1 a2
   dsimp only at a0 a1 a2
   obtain ⟨v, v0, v1, hv⟩ := kt (a1 (by decide)).1 (a1 (by decide)).2 (lookT TT 3).z
   repeat' ((conv=>whnf);first|refine vA ?_|with_reducible first|refine v8 ?_|refine Sp.mk ?_ ?_|refine vS ?_|refine vR ?_|refine vB ?_|refine br_nt ?_|refine br_tt ?_|refine br_ff ?_|refine vP ?_|refine vQ ?_|refine vT ?_|refine vF ?_|refine br_and ?_|refine br_or ?_|refine br_d (fun _=>?_) fun _=>?_|refine vM (fun _=>?_) fun _=>?_)
  all_goals try
   dsimp only [List.drop]
   rw [hv]
   repeat' ((conv=>whnf);first|refine vA ?_|with_reducible first|refine v8 ?_|refine Sp.mk ?_ ?_|refine vS ?_|refine vR ?_|refine vB ?_|refine br_nt ?_|refine br_tt ?_|refine br_ff ?_|refine vP ?_|refine vQ ?_|refine vT ?_|refine vF ?_|refine br_and ?_|refine br_or ?_|refine br_d (fun _=>?_) fun _=>?_|refine vM (fun _=>?_) fun _=>?_)
  all_goals
   refine ⟨_, _, [0], [], rfl, ?_, ?_, (⟨b, p1⟩, 60), rfl, rfl, ⟨⟨h1, h2, ?_, ?_⟩, ?_⟩, ?_⟩
   ·repeat' ((conv=>whnf);first|with_reducible exact True.intro|exact vW|with_reducible refine And.intro ?_ ?_)
    try exact Chk.mk (by rw [pw_sh (by assumption)])
   ·repeat' ((conv=>whnf);first|with_reducible exact True.intro|exact vW|with_reducible refine And.intro ?_ ?_)
   ·dsimp only; omega
   ·dsimp only; omega
   ·unfold i64r; dsimp only; omega
   intro k2 p2 c0 c1 c2
   dsimp only at c0 c1 c2
   have e59 := Int.tdiv_eq_ediv_of_nonneg (a := k2) (b := 59) (c1 (by decide)).1
   have c3 := c1 (by decide)
   repeat' ((conv=>whnf);first|with_reducible refine wk_at 3 ?_|with_reducible refine wk_at1 3 ?_|with_reducible refine wk_at2 3 ?_|refine vA ?_|with_reducible first|refine v8 ?_|refine Sp.mk ?_ ?_|refine vS ?_|refine vR ?_|refine vB ?_|refine br_nt ?_|refine br_tt ?_|refine br_ff ?_|refine vP ?_|refine vQ ?_|refine vT ?_|refine vF ?_|refine br_and ?_|refine br_or ?_|refine br_d (fun _=>?_) fun _=>?_|refine vM (fun _=>?_) fun _=>?_)
  all_goals try
   dsimp only [List.drop]
   rw [hv]
   repeat' ((conv=>whnf);first|with_reducible refine wk_at 3 ?_|with_reducible refine wk_at1 3 ?_|with_reducible refine wk_at2 3 ?_|refine vA ?_|with_reducible first|refine v8 ?_|refine Sp.mk ?_ ?_|refine vS ?_|refine vR ?_|refine vB ?_|refine br_nt ?_|refine br_tt ?_|refine br_ff ?_|refine vP ?_|refine vQ ?_|refine vT ?_|refine vF ?_|refine br_and ?_|refine br_or ?_|refine br_d (fun _=>?_) fun _=>?_|refine vM (fun _=>?_) fun _=>?_)
  all_goals
   obtain ⟨V, hV⟩ : ∃ V, (if 6 < if 1 > q then 1 else q then 6 else if 1 > q then 1 else q) = V := ⟨_, rfl⟩
   obtain ⟨k, hk⟩ : ∃ k, v + k2.tdiv 59 * 5 = k := ⟨_, rfl⟩
   have pV : people V := by unfold people; subst hV; (repeat' split) <;> omega
   have k0 : i64r k := by unfold i64r; omega
   try rw [hV]
   try rw [hk]
   refine ⟨Wk.go [(0, .ptr 0 0), (3, .ptr 1 0), (4, .ptr 2 0), (5, .ptr 3 0), (6, .int .i64 V)] [rdO b p2, .box [.int .i64 q, slI bs, slS rs], .box [.int .i64 0, .int .i64 0, .int .i64 0, .str ⟨#[]⟩], .box [.int .i64 k, .int .i64 0, .int .i64 0, .str ⟨#[]⟩]] ?_ ?_⟩
   ·first | (refine ⟨⟨[some 0, some 1, some 2, some 4], [], rfl, rfl, ?_, ?_⟩⟩ <;> (repeat' ((conv=>whnf);first|with_reducible exact True.intro|exact vW|with_reducible refine And.intro ?_ ?_)) <;> fail) | (refine ⟨⟨[some 0, some 1, some 2, some 3], [], rfl, rfl, ?_, ?_⟩⟩ <;> (repeat' ((conv=>whnf);first|with_reducible exact True.intro|exact vW|with_reducible refine And.intro ?_ ?_)) <;> fail)
   have hp2 : p ≤ p2 ∧ p2 ≤ p + 2 := by omega
   clear hV hk e59 c3 c0 c1 c2
   revert V k p2
   exact key1.t
 ·intro p2 V k pV k0 hp2
  have pw2 := pw_le pV
  have hI := h5.1.1
  apply later
  ·intro key2
   repeat' ((conv=>whnf);first|with_reducible refine wk_at 15 ?_|with_reducible refine wk_at1 15 ?_|with_reducible refine wk_at2 15 ?_|refine vA ?_|with_reducible first|refine v8 ?_|refine Sp.mk ?_ ?_|refine vS ?_|refine vR ?_|refine vB ?_|refine br_nt ?_|refine br_tt ?_|refine br_ff ?_|refine vP ?_|refine vQ ?_|refine vT ?_|refine vF ?_|refine br_and ?_|refine br_or ?_|refine br_d (fun _=>?_) fun _=>?_|refine vM (fun _=>?_) fun _=>?_)
   ·repeat' ((conv=>whnf);first|with_reducible refine Wr.ex (wsh pV) ?_|with_reducible refine Wr.ex (wi64 (by rw [pw_sh pV]; omega) (by rw [pw_sh pV]; omega)) ?_|refine vA ?_|with_reducible first|refine v8 ?_|refine Sp.mk ?_ ?_|refine vS ?_|refine vR ?_|refine vB ?_|refine br_nt ?_|refine br_tt ?_|refine br_ff ?_|refine vP ?_|refine vQ ?_|refine vT ?_|refine vF ?_|refine br_and ?_|refine br_or ?_|refine br_d (fun _=>?_) fun _=>?_|refine vM (fun _=>?_) fun _=>?_)
    refine ⟨_, _, [0], [], rfl, ?_, ?_, (⟨b, p2⟩, (pw V - 1)), rfl, rfl, ⟨⟨h1, h2, ?_, ?_⟩, ?_⟩, ?_⟩
    ·repeat' ((conv=>whnf);first|with_reducible exact True.intro|exact vW|with_reducible refine And.intro ?_ ?_)
     try exact Chk.mk (by rw [pw_sh (by assumption)])
    ·repeat' ((conv=>whnf);first|with_reducible exact True.intro|exact vW|with_reducible refine And.intro ?_ ?_)
    ·dsimp only; omega
    ·dsimp only; omega
    ·unfold i64r; dsimp only; omega
    intro j1 p3 c0 c1 c2
    dsimp only at c0 c1 c2
    repeat' ((conv=>whnf);first|with_reducible refine wk_at 15 ?_|with_reducible refine wk_at1 15 ?_|with_reducible refine wk_at2 15 ?_|refine vA ?_|with_reducible first|refine v8 ?_|refine Sp.mk ?_ ?_|refine vS ?_|refine vR ?_|refine vB ?_|refine br_nt ?_|refine br_tt ?_|refine br_ff ?_|refine vP ?_|refine vQ ?_|refine vT ?_|refine vF ?_|refine br_and ?_|refine br_or ?_|refine br_d (fun _=>?_) fun _=>?_|refine vM (fun _=>?_) fun _=>?_)
    obtain ⟨A, hA⟩ : ∃ A : Int, A = 1+j1 := ⟨_, rfl⟩
    obtain ⟨B, hB⟩ : ∃ B : Int, B = 0 := ⟨_, rfl⟩
    obtain ⟨W, hW⟩ : ∃ W : ByteArray, ⟨#[]⟩ = W := ⟨_, rfl⟩
    have A0 : i64r A := by rw [hA]; first | exact wi64r _ | (unfold i64r; omega)
    have B0 : i64r B := by rw [hB]; first | exact wi64r _ | (unfold i64r; omega)
    have W0 : W.size ≤ 10000 := by rw [← hW]; first | exact ttext_size _ _ | exact Nat.zero_le _
    obtain ⟨p9, hp9⟩ : ∃ p9 : Int, p9 = p3 := ⟨_, rfl⟩
    have p90 : p ≤ p9 ∧ p9 ≤ p + 200 := by omega
    refine ⟨Wk.go [(0, .ptr 0 0), (4, .ptr 1 0), (5, .ptr 2 0)] [rdO b p9, .box [.int .i64 0, .int .i64 0, .int .i64 0, .str ⟨#[]⟩], .box [.int .i64 k, .int .i64 A, .int .i64 B, .str W]] ⟨⟨[some 0, some 2, some 3], [], rfl, rfl, ?_, ?_⟩⟩ ?_⟩
    ·repeat' ((conv=>whnf);first|with_reducible exact True.intro|exact vW|with_reducible refine And.intro ?_ ?_)
    ·subst hW
     repeat' ((conv=>whnf);first|with_reducible exact True.intro|exact vW|with_reducible refine And.intro ?_ ?_)
    clear hA hB hW hp9
    revert A B W p9
    exact key2.t
   ·refine Dr.mk ⟨(.rd 0 (.rd 1 (.rd 2 (.rd 3 (.rd 4 (.ef 5 (.ef 6 (.rd 7 (.ef 8 .dn .no)) .no) .no)))))), by decide +kernel, ?_⟩
    repeat' ((conv=>whnf);first|refine vA ?_|with_reducible first|refine v8 ?_|refine Sp.mk ?_ ?_|refine vS ?_|refine vR ?_|refine vB ?_|refine br_nt ?_|refine br_tt ?_|refine br_ff ?_|refine vP ?_|refine vQ ?_|refine vT ?_|refine vF ?_|refine br_and ?_|refine br_or ?_|refine br_d (fun _=>?_) fun _=>?_|refine vM (fun _=>?_) fun _=>?_)
    refine ⟨_, _, [0], [], rfl, ?_, ?_, ⟨⟨b, p2⟩, ⟨q, bs⟩, 0⟩, rfl, rfl, ⟨⟨h1, h2, by dsimp only; omega, by dsimp only; omega⟩, hI, by dsimp only; omega, by unfold i64r; dsimp only; omega⟩, ?_⟩
    ·repeat' ((conv=>whnf);first|with_reducible exact True.intro|exact vW|with_reducible refine And.intro ?_ ?_)
    ·repeat' ((conv=>whnf);first|with_reducible exact True.intro|exact vW|with_reducible refine And.intro ?_ ?_)
    intro t p3 t1 t2 t3 t4
    dsimp only at t1 t2 t3 t4 ⊢
    repeat' ((conv=>whnf);first|refine vA ?_|with_reducible first|refine v8 ?_|refine Sp.mk ?_ ?_|refine vS ?_|refine vR ?_|refine vB ?_|refine br_nt ?_|refine br_tt ?_|refine br_ff ?_|refine vP ?_|refine vQ ?_|refine vT ?_|refine vF ?_|refine br_and ?_|refine br_or ?_|refine br_d (fun _=>?_) fun _=>?_|refine vM (fun _=>?_) fun _=>?_)
    refine ⟨(⟨q, bs⟩, t), ?_, ⟨hI, by dsimp only; omega, t4, by dsimp only; omega⟩, ?_⟩
    ·repeat' ((conv=>whnf);first|with_reducible exact True.intro|exact vW|with_reducible refine And.intro ?_ ?_)
    repeat' ((conv=>whnf);first|with_reducible refine wk_at 15 ?_|with_reducible refine wk_at1 15 ?_|with_reducible refine wk_at2 15 ?_|refine vA ?_|with_reducible first|refine v8 ?_|refine Sp.mk ?_ ?_|refine vS ?_|refine vR ?_|refine vB ?_|refine br_nt ?_|refine br_tt ?_|refine br_ff ?_|refine vP ?_|refine vQ ?_|refine vT ?_|refine vF ?_|refine br_and ?_|refine br_or ?_|refine br_d (fun _=>?_) fun _=>?_|refine vM (fun _=>?_) fun _=>?_)
    obtain ⟨A, hA⟩ : ∃ A : Int, A = 0 := ⟨_, rfl⟩
    obtain ⟨B, hB⟩ : ∃ B : Int, B = 0 := ⟨_, rfl⟩
    obtain ⟨W, hW⟩ : ∃ W : ByteArray, ttext (⟨q,bs⟩,t) = W := ⟨_, rfl⟩
    have A0 : i64r A := by rw [hA]; first | exact wi64r _ | (unfold i64r; omega)
    have B0 : i64r B := by rw [hB]; first | exact wi64r _ | (unfold i64r; omega)
    have W0 : W.size ≤ 10000 := by rw [← hW]; first | exact ttext_size _ _ | exact Nat.zero_le _
    obtain ⟨p9, hp9⟩ : ∃ p9 : Int, p9 = p3 := ⟨_, rfl⟩
    have p90 : p ≤ p9 ∧ p9 ≤ p + 200 := by omega
    refine ⟨Wk.go [(0, .ptr 0 0), (4, .ptr 1 0), (5, .ptr 2 0)] [rdO b p9, .box [.int .i64 0, .int .i64 0, .int .i64 0, .str ⟨#[]⟩], .box [.int .i64 k, .int .i64 A, .int .i64 B, .str W]] ⟨⟨[some 0, some 2, some 3], [], rfl, rfl, ?_, ?_⟩⟩ ?_⟩
    ·repeat' ((conv=>whnf);first|with_reducible exact True.intro|exact vW|with_reducible refine And.intro ?_ ?_)
    ·subst hW
     repeat' ((conv=>whnf);first|with_reducible exact True.intro|exact vW|with_reducible refine And.intro ?_ ?_)
    clear hA hB hW hp9
    revert A B W p9
    exact key2.t
   ·refine ⟨_, _, [0], [], rfl, ?_, ?_, (⟨b, p2⟩, (if 1 > (rs.length : Int) then 1 else (rs.length : Int))), rfl, rfl, ⟨⟨h1, h2, ?_, ?_⟩, ?_⟩, ?_⟩
    ·repeat' ((conv=>whnf);first|with_reducible exact True.intro|exact vW|with_reducible refine And.intro ?_ ?_)
     try exact Chk.mk (by rw [pw_sh (by assumption)])
    ·repeat' ((conv=>whnf);first|with_reducible exact True.intro|exact vW|with_reducible refine And.intro ?_ ?_)
    ·dsimp only; omega
    ·dsimp only; omega
    ·unfold i64r; dsimp only; omega
    intro j1 p3 c0 c1 c2
    dsimp only at c0 c1 c2
    have c3 : i64r j1 := by unfold i64r; split at c1 <;> omega
    repeat' ((conv=>whnf);first|refine vA ?_|with_reducible first|refine v8 ?_|refine Sp.mk ?_ ?_|refine vS ?_|refine vR ?_|refine vB ?_|refine br_nt ?_|refine br_tt ?_|refine br_ff ?_|refine vP ?_|refine vQ ?_|refine vT ?_|refine vF ?_|refine br_and ?_|refine br_or ?_|refine br_d (fun _=>?_) fun _=>?_|refine vM (fun _=>?_) fun _=>?_)
    refine Dr.mk ⟨(.rd 0 (.rd 1 (.rd 2 (.rd 4 (.rd 5 (.rd 6 (.ef 3 (.ef 7 (.rd 8 (.rd 9 (.ef 10 .dn .no))) .no) .no))))))), by decide +kernel, ?_⟩
    repeat' ((conv=>whnf);first|with_reducible refine Wr.ex (wsh pV) ?_|refine vA ?_|with_reducible first|refine v8 ?_|refine Sp.mk ?_ ?_|refine vS ?_|refine vR ?_|refine vB ?_|refine br_nt ?_|refine br_tt ?_|refine br_ff ?_|refine vP ?_|refine vQ ?_|refine vT ?_|refine vF ?_|refine br_and ?_|refine br_or ?_|refine br_d (fun _=>?_) fun _=>?_|refine vM (fun _=>?_) fun _=>?_)
    refine ⟨_, _, [0], [], rfl, ?_, ?_, (⟨b, p3⟩, (pw V)), rfl, rfl, ⟨⟨h1, h2, ?_, ?_⟩, ?_⟩, ?_⟩
    ·repeat' ((conv=>whnf);first|with_reducible exact True.intro|exact vW|with_reducible refine And.intro ?_ ?_)
     try exact Chk.mk (by rw [pw_sh (by assumption)])
    ·repeat' ((conv=>whnf);first|with_reducible exact True.intro|exact vW|with_reducible refine And.intro ?_ ?_)
    ·dsimp only; omega
    ·dsimp only; omega
    ·unfold i64r; dsimp only; omega
    intro j2 p4 d0 d1 d2
    dsimp only at d0 d1 d2
    repeat' ((conv=>whnf);first|refine vA ?_|with_reducible first|refine v8 ?_|refine Sp.mk ?_ ?_|refine vS ?_|refine vR ?_|refine vB ?_|refine br_nt ?_|refine br_tt ?_|refine br_ff ?_|refine vP ?_|refine vQ ?_|refine vT ?_|refine vF ?_|refine br_and ?_|refine br_or ?_|refine br_d (fun _=>?_) fun _=>?_|refine vM (fun _=>?_) fun _=>?_)
    refine ⟨_, _, [0], [], rfl, ?_, ?_, (⟨b, p4⟩, (pw V)), rfl, rfl, ⟨⟨h1, h2, ?_, ?_⟩, ?_⟩, ?_⟩
    ·repeat' ((conv=>whnf);first|with_reducible exact True.intro|exact vW|with_reducible refine And.intro ?_ ?_)
     try exact Chk.mk (by rw [pw_sh (by assumption)])
    ·repeat' ((conv=>whnf);first|with_reducible exact True.intro|exact vW|with_reducible refine And.intro ?_ ?_)
    ·dsimp only; omega
    ·dsimp only; omega
    ·unfold i64r; dsimp only; omega
    intro j3 p5 e0 e1 e2
    dsimp only at e0 e1 e2
    repeat' ((conv=>whnf);first|refine vA ?_|with_reducible first|refine v8 ?_|refine Sp.mk ?_ ?_|refine vS ?_|refine vR ?_|refine vB ?_|refine br_nt ?_|refine br_tt ?_|refine br_ff ?_|refine vP ?_|refine vQ ?_|refine vT ?_|refine vF ?_|refine br_and ?_|refine br_or ?_|refine br_d (fun _=>?_) fun _=>?_|refine vM (fun _=>?_) fun _=>?_)
    refine Dr.mk ⟨(.rd 0 (.rd 1 (.rd 2 (.rd 3 (.rd 4 (.ef 5 (.ef 6 (.rd 7 (.ef 8 .dn .no)) .no) .no)))))), by decide +kernel, ?_⟩
    repeat' ((conv=>whnf);first|refine vA ?_|with_reducible first|refine v8 ?_|refine Sp.mk ?_ ?_|refine vS ?_|refine vR ?_|refine vB ?_|refine br_nt ?_|refine br_tt ?_|refine br_ff ?_|refine vP ?_|refine vQ ?_|refine vT ?_|refine vF ?_|refine br_and ?_|refine br_or ?_|refine br_d (fun _=>?_) fun _=>?_|refine vM (fun _=>?_) fun _=>?_)
    refine ⟨_, _, [0], [], rfl, ?_, ?_, ⟨⟨b, p5⟩, ⟨q, bs⟩, 0⟩, rfl, rfl, ⟨⟨h1, h2, by dsimp only; omega, by dsimp only; omega⟩, hI, by dsimp only; omega, by unfold i64r; dsimp only; omega⟩, ?_⟩
    ·repeat' ((conv=>whnf);first|with_reducible exact True.intro|exact vW|with_reducible refine And.intro ?_ ?_)
    ·repeat' ((conv=>whnf);first|with_reducible exact True.intro|exact vW|with_reducible refine And.intro ?_ ?_)
    intro t p6 t1 t2 t3 t4
    dsimp only at t1 t2 t3 t4 ⊢
    repeat' ((conv=>whnf);first|refine vA ?_|with_reducible first|refine v8 ?_|refine Sp.mk ?_ ?_|refine vS ?_|refine vR ?_|refine vB ?_|refine br_nt ?_|refine br_tt ?_|refine br_ff ?_|refine vP ?_|refine vQ ?_|refine vT ?_|refine vF ?_|refine br_and ?_|refine br_or ?_|refine br_d (fun _=>?_) fun _=>?_|refine vM (fun _=>?_) fun _=>?_)
    refine ⟨(⟨q, bs⟩, t), ?_, ⟨hI, by dsimp only; omega, t4, by dsimp only; omega⟩, ?_⟩
    ·repeat' ((conv=>whnf);first|with_reducible exact True.intro|exact vW|with_reducible refine And.intro ?_ ?_)
    repeat' ((conv=>whnf);first|with_reducible refine wk_at 15 ?_|with_reducible refine wk_at1 15 ?_|with_reducible refine wk_at2 15 ?_|refine vA ?_|with_reducible first|refine v8 ?_|refine Sp.mk ?_ ?_|refine vS ?_|refine vR ?_|refine vB ?_|refine br_nt ?_|refine br_tt ?_|refine br_ff ?_|refine vP ?_|refine vQ ?_|refine vT ?_|refine vF ?_|refine br_and ?_|refine br_or ?_|refine br_d (fun _=>?_) fun _=>?_|refine vM (fun _=>?_) fun _=>?_)
    obtain ⟨A, hA⟩ : ∃ A : Int, A = j1 := ⟨_, rfl⟩
    obtain ⟨B, hB⟩ : ∃ B : Int, B = (bitop .i64 .or j2 j3) := ⟨_, rfl⟩
    obtain ⟨W, hW⟩ : ∃ W : ByteArray, ttext (⟨q,bs⟩,t) = W := ⟨_, rfl⟩
    have A0 : i64r A := by rw [hA]; first | exact wi64r _ | (unfold i64r; omega)
    have B0 : i64r B := by rw [hB]; first | exact wi64r _ | (unfold i64r; omega)
    have W0 : W.size ≤ 10000 := by rw [← hW]; first | exact ttext_size _ _ | exact Nat.zero_le _
    obtain ⟨p9, hp9⟩ : ∃ p9 : Int, p9 = p6 := ⟨_, rfl⟩
    have p90 : p ≤ p9 ∧ p9 ≤ p + 200 := by omega
    refine ⟨Wk.go [(0, .ptr 0 0), (4, .ptr 1 0), (5, .ptr 2 0)] [rdO b p9, .box [.int .i64 0, .int .i64 0, .int .i64 0, .str ⟨#[]⟩], .box [.int .i64 k, .int .i64 A, .int .i64 B, .str W]] ⟨⟨[some 0, some 2, some 3], [], rfl, rfl, ?_, ?_⟩⟩ ?_⟩
    ·repeat' ((conv=>whnf);first|with_reducible exact True.intro|exact vW|with_reducible refine And.intro ?_ ?_)
    ·subst hW
     repeat' ((conv=>whnf);first|with_reducible exact True.intro|exact vW|with_reducible refine And.intro ?_ ?_)
    clear hA hB hW hp9
    revert A B W p9
    exact key2.t
   ·refine ⟨_, _, [0], [], rfl, ?_, ?_, (⟨b, p2⟩, (if 1 > (rs.length : Int) then 1 else (rs.length : Int))), rfl, rfl, ⟨⟨h1, h2, ?_, ?_⟩, ?_⟩, ?_⟩
    ·repeat' ((conv=>whnf);first|with_reducible exact True.intro|exact vW|with_reducible refine And.intro ?_ ?_)
     try exact Chk.mk (by rw [pw_sh (by assumption)])
    ·repeat' ((conv=>whnf);first|with_reducible exact True.intro|exact vW|with_reducible refine And.intro ?_ ?_)
    ·dsimp only; omega
    ·dsimp only; omega
    ·unfold i64r; dsimp only; omega
    intro j1 p3 c0 c1 c2
    dsimp only at c0 c1 c2
    have c3 : i64r j1 := by unfold i64r; split at c1 <;> omega
    repeat' ((conv=>whnf);first|refine vA ?_|with_reducible first|refine v8 ?_|refine Sp.mk ?_ ?_|refine vS ?_|refine vR ?_|refine vB ?_|refine br_nt ?_|refine br_tt ?_|refine br_ff ?_|refine vP ?_|refine vQ ?_|refine vT ?_|refine vF ?_|refine br_and ?_|refine br_or ?_|refine br_d (fun _=>?_) fun _=>?_|refine vM (fun _=>?_) fun _=>?_)
    refine Dr.mk ⟨(.rd 0 (.rd 1 (.rd 2 (.rd 4 (.rd 5 (.rd 6 (.ef 3 (.ef 7 (.rd 8 (.rd 9 (.ef 10 .dn .no))) .no) .no))))))), by decide +kernel, ?_⟩
    repeat' ((conv=>whnf);first|with_reducible refine Wr.ex (wsh pV) ?_|refine vA ?_|with_reducible first|refine v8 ?_|refine Sp.mk ?_ ?_|refine vS ?_|refine vR ?_|refine vB ?_|refine br_nt ?_|refine br_tt ?_|refine br_ff ?_|refine vP ?_|refine vQ ?_|refine vT ?_|refine vF ?_|refine br_and ?_|refine br_or ?_|refine br_d (fun _=>?_) fun _=>?_|refine vM (fun _=>?_) fun _=>?_)
    refine ⟨_, _, [0], [], rfl, ?_, ?_, (⟨b, p3⟩, (pw V)), rfl, rfl, ⟨⟨h1, h2, ?_, ?_⟩, ?_⟩, ?_⟩
    ·repeat' ((conv=>whnf);first|with_reducible exact True.intro|exact vW|with_reducible refine And.intro ?_ ?_)
     try exact Chk.mk (by rw [pw_sh (by assumption)])
    ·repeat' ((conv=>whnf);first|with_reducible exact True.intro|exact vW|with_reducible refine And.intro ?_ ?_)
    ·dsimp only; omega
    ·dsimp only; omega
    ·unfold i64r; dsimp only; omega
    intro j2 p4 d0 d1 d2
    dsimp only at d0 d1 d2
    repeat' ((conv=>whnf);first|refine vA ?_|with_reducible first|refine v8 ?_|refine Sp.mk ?_ ?_|refine vS ?_|refine vR ?_|refine vB ?_|refine br_nt ?_|refine br_tt ?_|refine br_ff ?_|refine vP ?_|refine vQ ?_|refine vT ?_|refine vF ?_|refine br_and ?_|refine br_or ?_|refine br_d (fun _=>?_) fun _=>?_|refine vM (fun _=>?_) fun _=>?_)
    refine ⟨_, _, [0], [], rfl, ?_, ?_, (⟨b, p4⟩, (pw V)), rfl, rfl, ⟨⟨h1, h2, ?_, ?_⟩, ?_⟩, ?_⟩
    ·repeat' ((conv=>whnf);first|with_reducible exact True.intro|exact vW|with_reducible refine And.intro ?_ ?_)
     try exact Chk.mk (by rw [pw_sh (by assumption)])
    ·repeat' ((conv=>whnf);first|with_reducible exact True.intro|exact vW|with_reducible refine And.intro ?_ ?_)
    ·dsimp only; omega
    ·dsimp only; omega
    ·unfold i64r; dsimp only; omega
    intro j3 p5 e0 e1 e2
    dsimp only at e0 e1 e2
    repeat' ((conv=>whnf);first|with_reducible refine wk_at 15 ?_|with_reducible refine wk_at1 15 ?_|with_reducible refine wk_at2 15 ?_|refine vA ?_|with_reducible first|refine v8 ?_|refine Sp.mk ?_ ?_|refine vS ?_|refine vR ?_|refine vB ?_|refine br_nt ?_|refine br_tt ?_|refine br_ff ?_|refine vP ?_|refine vQ ?_|refine vT ?_|refine vF ?_|refine br_and ?_|refine br_or ?_|refine br_d (fun _=>?_) fun _=>?_|refine vM (fun _=>?_) fun _=>?_)
    obtain ⟨A, hA⟩ : ∃ A : Int, A = j1 := ⟨_, rfl⟩
    obtain ⟨B, hB⟩ : ∃ B : Int, B = (bitop .i64 .or j2 j3) := ⟨_, rfl⟩
    obtain ⟨W, hW⟩ : ∃ W : ByteArray, ⟨#[]⟩ = W := ⟨_, rfl⟩
    have A0 : i64r A := by rw [hA]; first | exact wi64r _ | (unfold i64r; omega)
    have B0 : i64r B := by rw [hB]; first | exact wi64r _ | (unfold i64r; omega)
    have W0 : W.size ≤ 10000 := by rw [← hW]; first | exact ttext_size _ _ | exact Nat.zero_le _
    obtain ⟨p9, hp9⟩ : ∃ p9 : Int, p9 = p5 := ⟨_, rfl⟩
    have p90 : p ≤ p9 ∧ p9 ≤ p + 200 := by omega
    refine ⟨Wk.go [(0, .ptr 0 0), (4, .ptr 1 0), (5, .ptr 2 0)] [rdO b p9, .box [.int .i64 0, .int .i64 0, .int .i64 0, .str ⟨#[]⟩], .box [.int .i64 k, .int .i64 A, .int .i64 B, .str W]] ⟨⟨[some 0, some 2, some 3], [], rfl, rfl, ?_, ?_⟩⟩ ?_⟩
    ·repeat' ((conv=>whnf);first|with_reducible exact True.intro|exact vW|with_reducible refine And.intro ?_ ?_)
    ·subst hW
     repeat' ((conv=>whnf);first|with_reducible exact True.intro|exact vW|with_reducible refine And.intro ?_ ?_)
    clear hA hB hW hp9
    revert A B W p9
    exact key2.t
   ·obtain ⟨A, hA⟩ : ∃ A : Int, A = 0 := ⟨_, rfl⟩
    obtain ⟨B, hB⟩ : ∃ B : Int, B = 0 := ⟨_, rfl⟩
    obtain ⟨W, hW⟩ : ∃ W : ByteArray, ⟨#[]⟩ = W := ⟨_, rfl⟩
    have A0 : i64r A := by rw [hA]; first | exact wi64r _ | (unfold i64r; omega)
    have B0 : i64r B := by rw [hB]; first | exact wi64r _ | (unfold i64r; omega)
    have W0 : W.size ≤ 10000 := by rw [← hW]; first | exact ttext_size _ _ | exact Nat.zero_le _
    obtain ⟨p9, hp9⟩ : ∃ p9 : Int, p9 = p2 := ⟨_, rfl⟩
    have p90 : p ≤ p9 ∧ p9 ≤ p + 200 := by omega
    refine ⟨Wk.go [(0, .ptr 0 0), (4, .ptr 1 0), (5, .ptr 2 0)] [rdO b p9, .box [.int .i64 0, .int .i64 0, .int .i64 0, .str ⟨#[]⟩], .box [.int .i64 k, .int .i64 A, .int .i64 B, .str W]] ⟨⟨[some 0, some 2, some 3], [], rfl, rfl, ?_, ?_⟩⟩ ?_⟩
    ·repeat' ((conv=>whnf);first|with_reducible exact True.intro|exact vW|with_reducible refine And.intro ?_ ?_)
    ·subst hW
     repeat' ((conv=>whnf);first|with_reducible exact True.intro|exact vW|with_reducible refine And.intro ?_ ?_)
    clear hA hB hW hp9
    revert A B W p9
    exact key2.t
  ·intro A B W A0 B0 W0 p9 p90
   repeat' ((conv=>whnf);first|refine vA ?_|with_reducible first|refine v8 ?_|refine Sp.mk ?_ ?_|refine vS ?_|refine vR ?_|refine vB ?_|refine br_nt ?_|refine br_tt ?_|refine br_ff ?_|refine vP ?_|refine vQ ?_|refine vT ?_|refine vF ?_|refine br_and ?_|refine br_or ?_|refine br_d (fun _=>?_) fun _=>?_|refine vM (fun _=>?_) fun _=>?_)
   refine ⟨_, _, [0], [], rfl, ?_, ?_, (⟨b, p9⟩, 40), rfl, rfl, ⟨⟨h1, h2, by dsimp only; omega, by dsimp only; omega⟩, by unfold i64r; dsimp only; omega⟩, ?_⟩
   ·repeat' ((conv=>whnf);first|with_reducible exact True.intro|exact vW|with_reducible refine And.intro ?_ ?_)
   ·repeat' ((conv=>whnf);first|with_reducible exact True.intro|exact vW|with_reducible refine And.intro ?_ ?_)
   intro o p10 g1 g2
   dsimp only at g1 g2
   repeat' ((conv=>whnf);first|refine vA ?_|with_reducible first|refine v8 ?_|refine Sp.mk ?_ ?_|refine vS ?_|refine vR ?_|refine vB ?_|refine br_nt ?_|refine br_tt ?_|refine br_ff ?_|refine vP ?_|refine vQ ?_|refine vT ?_|refine vF ?_|refine br_and ?_|refine br_or ?_|refine br_d (fun _=>?_) fun _=>?_|refine vM (fun _=>?_) fun _=>?_)
   ·refine ⟨_, _, [0], [], rfl, ?_, ?_, (⟨b, p10⟩, 3), rfl, rfl, ⟨⟨h1, h2, ?_, ?_⟩, ?_⟩, ?_⟩
    ·repeat' ((conv=>whnf);first|with_reducible exact True.intro|exact vW|with_reducible refine And.intro ?_ ?_)
     try exact Chk.mk (by rw [pw_sh (by assumption)])
    ·repeat' ((conv=>whnf);first|with_reducible exact True.intro|exact vW|with_reducible refine And.intro ?_ ?_)
    ·dsimp only; omega
    ·dsimp only; omega
    ·unfold i64r; dsimp only; omega
    intro r1 p11 f0 f1 f2
    dsimp only at f0 f1 f2
    repeat' ((conv=>whnf);first|refine vA ?_|with_reducible first|refine v8 ?_|refine Sp.mk ?_ ?_|refine vS ?_|refine vR ?_|refine vB ?_|refine br_nt ?_|refine br_tt ?_|refine br_ff ?_|refine vP ?_|refine vQ ?_|refine vT ?_|refine vF ?_|refine br_and ?_|refine br_or ?_|refine br_d (fun _=>?_) fun _=>?_|refine vM (fun _=>?_) fun _=>?_)
    ·refine ⟨_, _, [0], [], rfl, ?_, ?_, (⟨b, p11⟩, 2), rfl, rfl, ⟨⟨h1, h2, ?_, ?_⟩, ?_⟩, ?_⟩
     ·repeat' ((conv=>whnf);first|with_reducible exact True.intro|exact vW|with_reducible refine And.intro ?_ ?_)
      try exact Chk.mk (by rw [pw_sh (by assumption)])
     ·repeat' ((conv=>whnf);first|with_reducible exact True.intro|exact vW|with_reducible refine And.intro ?_ ?_)
     ·dsimp only; omega
     ·dsimp only; omega
     ·unfold i64r; dsimp only; omega
     intro r2 p12 g0 g1 g2
     dsimp only at g0 g1 g2
     rcases (show r2 = 0 ∨ r2 = 1 by omega) with rfl | rfl
     ·repeat' ((conv=>whnf);first|refine vA ?_|with_reducible first|refine v8 ?_|refine Sp.mk ?_ ?_|refine vS ?_|refine vR ?_|refine vB ?_|refine br_nt ?_|refine br_tt ?_|refine br_ff ?_|refine vP ?_|refine vQ ?_|refine vT ?_|refine vF ?_|refine br_and ?_|refine br_or ?_|refine br_d (fun _=>?_) fun _=>?_|refine vM (fun _=>?_) fun _=>?_)
      refine ⟨_, _, [some 0], [], rfl, rfl, ?_, ?_, h ⟨k, (-1), B, W⟩ p12 (by omega) (by omega) ⟨k0, (show i64r (-1) from ⟨by decide,by decide⟩), B0, W0⟩⟩
      ·repeat' ((conv=>whnf);first|with_reducible exact True.intro|exact vW|with_reducible refine And.intro ?_ ?_)
      ·repeat' ((conv=>whnf);first|with_reducible exact True.intro|exact vW|with_reducible refine And.intro ?_ ?_)
     ·repeat' ((conv=>whnf);first|refine vA ?_|with_reducible first|refine v8 ?_|refine Sp.mk ?_ ?_|refine vS ?_|refine vR ?_|refine vB ?_|refine br_nt ?_|refine br_tt ?_|refine br_ff ?_|refine vP ?_|refine vQ ?_|refine vT ?_|refine vF ?_|refine br_and ?_|refine br_or ?_|refine br_d (fun _=>?_) fun _=>?_|refine vM (fun _=>?_) fun _=>?_)
      refine ⟨_, _, [some 0], [], rfl, rfl, ?_, ?_, h ⟨k, 100, B, W⟩ p12 (by omega) (by omega) ⟨k0, (show i64r 100 from ⟨by decide,by decide⟩), B0, W0⟩⟩
      ·repeat' ((conv=>whnf);first|with_reducible exact True.intro|exact vW|with_reducible refine And.intro ?_ ?_)
      ·repeat' ((conv=>whnf);first|with_reducible exact True.intro|exact vW|with_reducible refine And.intro ?_ ?_)
    ·refine ⟨_, _, [0], [], rfl, ?_, ?_, (⟨b, p11⟩, 3), rfl, rfl, ⟨⟨h1, h2, ?_, ?_⟩, ?_⟩, ?_⟩
     ·repeat' ((conv=>whnf);first|with_reducible exact True.intro|exact vW|with_reducible refine And.intro ?_ ?_)
      try exact Chk.mk (by rw [pw_sh (by assumption)])
     ·repeat' ((conv=>whnf);first|with_reducible exact True.intro|exact vW|with_reducible refine And.intro ?_ ?_)
     ·dsimp only; omega
     ·dsimp only; omega
     ·unfold i64r; dsimp only; omega
     intro r2 p12 g0 g1 g2
     dsimp only at g0 g1 g2
     rcases (show r2 = 0 ∨ r2 = 1 ∨ r2 = 2 by omega) with rfl | rfl | rfl
     ·repeat' ((conv=>whnf);first|refine vA ?_|with_reducible first|refine v8 ?_|refine Sp.mk ?_ ?_|refine vS ?_|refine vR ?_|refine vB ?_|refine br_nt ?_|refine br_tt ?_|refine br_ff ?_|refine vP ?_|refine vQ ?_|refine vT ?_|refine vF ?_|refine br_and ?_|refine br_or ?_|refine br_d (fun _=>?_) fun _=>?_|refine vM (fun _=>?_) fun _=>?_)
      refine ⟨_, _, [some 0], [], rfl, rfl, ?_, ?_, h ⟨k, A, B, ⟨#[40,65,49,41]⟩⟩ p12 (by omega) (by omega) ⟨k0, A0, B0, (show (4:Nat)≤10000 by decide)⟩⟩
      ·repeat' ((conv=>whnf);first|with_reducible exact True.intro|exact vW|with_reducible refine And.intro ?_ ?_)
      ·repeat' ((conv=>whnf);first|with_reducible exact True.intro|exact vW|with_reducible refine And.intro ?_ ?_)
     ·repeat' ((conv=>whnf);first|refine vA ?_|with_reducible first|refine v8 ?_|refine Sp.mk ?_ ?_|refine vS ?_|refine vR ?_|refine vB ?_|refine br_nt ?_|refine br_tt ?_|refine br_ff ?_|refine vP ?_|refine vQ ?_|refine vT ?_|refine vF ?_|refine br_and ?_|refine br_or ?_|refine br_d (fun _=>?_) fun _=>?_|refine vM (fun _=>?_) fun _=>?_)
      refine ⟨_, _, [some 0], [], rfl, rfl, ?_, ?_, h ⟨k, A, B, ⟨#[97,32,98]⟩⟩ p12 (by omega) (by omega) ⟨k0, A0, B0, (show (3:Nat)≤10000 by decide)⟩⟩
      ·repeat' ((conv=>whnf);first|with_reducible exact True.intro|exact vW|with_reducible refine And.intro ?_ ?_)
      ·repeat' ((conv=>whnf);first|with_reducible exact True.intro|exact vW|with_reducible refine And.intro ?_ ?_)
     ·repeat' ((conv=>whnf);first|refine vA ?_|with_reducible first|refine v8 ?_|refine Sp.mk ?_ ?_|refine vS ?_|refine vR ?_|refine vB ?_|refine br_nt ?_|refine br_tt ?_|refine br_ff ?_|refine vP ?_|refine vQ ?_|refine vT ?_|refine vF ?_|refine br_and ?_|refine br_or ?_|refine br_d (fun _=>?_) fun _=>?_|refine vM (fun _=>?_) fun _=>?_)
      refine ⟨_, _, [some 0], [], rfl, rfl, ?_, ?_, h ⟨k, A, B, ⟨#[]⟩⟩ p12 (by omega) (by omega) ⟨k0, A0, B0, (show (0:Nat)≤10000 by decide)⟩⟩
      ·repeat' ((conv=>whnf);first|with_reducible exact True.intro|exact vW|with_reducible refine And.intro ?_ ?_)
      ·repeat' ((conv=>whnf);first|with_reducible exact True.intro|exact vW|with_reducible refine And.intro ?_ ?_)
    ·refine ⟨_, _, [some 0], [], rfl, rfl, ?_, ?_, h ⟨k, A, 99, W⟩ p11 (by omega) (by omega) ⟨k0, A0, (show i64r 99 from ⟨by decide,by decide⟩), W0⟩⟩
     ·repeat' ((conv=>whnf);first|with_reducible exact True.intro|exact vW|with_reducible refine And.intro ?_ ?_)
     ·repeat' ((conv=>whnf);first|with_reducible exact True.intro|exact vW|with_reducible refine And.intro ?_ ?_)
   ·refine ⟨_, _, [some 0], [], rfl, rfl, ?_, ?_, h ⟨k, A, B, W⟩ p10 (by omega) (by omega) ⟨k0, A0, B0, W0⟩⟩
    ·repeat' ((conv=>whnf);first|with_reducible exact True.intro|exact vW|with_reducible refine And.intro ?_ ?_)
    ·repeat' ((conv=>whnf);first|with_reducible exact True.intro|exact vW|with_reducible refine And.intro ?_ ?_)
/-! ### Desks that are drawn -/
structure drawnQ (x : Place) : Prop where
 i : placeI x
 bl : x.bs.length ≤ 4
 rl : x.rules.length ≤ 4
 rr : ∀ r ∈ x.rules, r.size ≤ 10000
def drawnD (d : Desk) : Prop := drawnQ d.now ∧ d.past.length ≤ 9 ∧ ∀ p ∈ d.past, drawnQ p
theorem drawnP.q {x : Place} (h : drawnP x) : drawnQ x := ⟨h.I, h.bl, h.rl, h.rr⟩
theorem drawnQ.s {x : Place} (h : drawnQ x) : shortP x := ⟨Nat.le_trans h.rl (by decide), Nat.le_trans h.bl (by decide)⟩
theorem drawnD.I {d : Desk} (h : drawnD d) : deskI d := ⟨h.1.i, Nat.lt_of_le_of_lt h.2.1 (by decide), fun p hp => (h.2.2 p hp).i⟩
theorem drawnA.I {a : Dd} (h : drawnA a) : dedI a := ⟨h.k0, h.a0, h.b0, Nat.lt_of_le_of_lt h.w0 (by decide)⟩
end Go.Proofs.YtkafoolhbflfkaaGreatDoor.Vc
end
section
/- Part XB: deeds at a desk, one after the other: the plain law. -/
namespace Go.Proofs.YtkafoolhbflfkaaGreatDoor.Vc
open Go.Proofs
set_option maxRecDepth 10000
set_option maxHeartbeats 4000000
theorem pushP_mem {l : List Place} {x : Place} : ∀ p ∈ pushP l x, p ∈ l ∨ p = x := by
 unfold pushP
 intro p hp
 split at hp
 ·exact (List.mem_append.1 (List.mem_of_mem_drop hp)).imp id fun h => List.mem_singleton.1 h
 ·exact (List.mem_append.1 hp).imp id fun h => List.mem_singleton.1 h
theorem pushP_len {l : List Place} {x : Place} (h : l.length ≤ 8) : (pushP l x).length ≤ 8 := by
 unfold pushP
 split
 ·rw [List.length_drop, List.length_append]
  show l.length + 1 - 1 ≤ 8
  omega
 ·omega
theorem doD_ok {d e : Desk} {a : Dd} (hO : deskOk d) (he : doD d a = some e) : deskOk e := by
 unfold doD at he
 split at he
 ·rename_i g
  cases he
  have m : d.past.getD (d.past.length - 1) default ∈ d.past := getD_mem' (by omega)
  refine ⟨hO.2.2 _ m, ?_, fun p hp => hO.2.2 p (List.mem_of_mem_take hp)⟩
  have := hO.2.1
  dsimp only
  rw [List.length_take]
  omega
 ·split at he
  ·rename_i g
   cases he
   exact ⟨g.1, pushP_len hO.2.1, fun p hp => (pushP_mem p hp).elim (hO.2.2 p) fun k => k ▸ hO.1⟩
  ·cases he
noncomputable def runD (d : Desk) : List Dd → Desk × Nat
 |[] => (d, 0)
 |a :: l => match doD d a with
  |some e => ((runD e l).1, (runD e l).2 + 1)
  |none => runD d l
theorem runD_app (d : Desk) (l m : List Dd) : runD d (l ++ m) = ((runD (runD d l).1 m).1, (runD d l).2 + (runD (runD d l).1 m).2) := by
 induction l generalizing d with
 |nil => exact Prod.ext rfl (Nat.zero_add _).symm
 |cons a l ih =>
  rw [List.cons_append]
  simp only [runD]
  cases h : doD d a with
  |none => exact ih d
  |some e =>
   simp only [ih e]
   exact Prod.ext rfl (by dsimp only; omega)
theorem runD_one (d : Desk) (a : Dd) : runD d [a] = match doD d a with
  |some e => (e, 1)
  |none => (d, 0) := by
 simp only [runD]
theorem runD_some {d e : Desk} {l : List Dd} {a : Dd} (h : doD (runD d l).1 a = some e) : runD d (l ++ [a]) = (e, (runD d l).2 + 1) := by
 rw [runD_app, runD_one, h]
theorem runD_none {d : Desk} {l : List Dd} {a : Dd} (h : doD (runD d l).1 a = none) : runD d (l ++ [a]) = runD d l := by
 rw [runD_app, runD_one, h]
 rfl
theorem runD_ok {d : Desk} (h : deskOk d) : ∀ l : List Dd, deskOk (runD d l).1
 |[] => h
 |a :: l => by
  simp only [runD]
  cases e : doD d a with
  |none => exact runD_ok h l
  |some x => exact runD_ok (doD_ok h e) l
theorem runD_le (d : Desk) : ∀ l : List Dd, (runD d l).2 ≤ l.length
 |[] => Nat.le_refl _
 |a :: l => by
  simp only [runD]
  cases e : doD d a with
  |none => have := runD_le d l; simp only [List.length_cons]; omega
  |some x => have := runD_le x l; simp only [List.length_cons]; omega
theorem take_step {l : List Dd} {i : Nat} (h : i < l.length) : l.take (i + 1) = l.take i ++ [l.getD i default] := take_succ' default h
end Go.Proofs.YtkafoolhbflfkaaGreatDoor.Vc
end
section
/- Part UG: texts of places are read: the law. -/
namespace Go.Proofs.YtkafoolhbflfkaaGreatDoor.Vc
open Go.Proofs
set_option maxRecDepth 10000
set_option maxHeartbeats 4000000
def C218 := C214
theorem F218 : FF 55 C218 := by
 refine fitXE [(87, C214)] (by simp only [List.mem_cons, List.not_mem_nil, or_false]; rintro _ rfl; exact F214) [] (by simp) Tryz.f55 ⟨rfl, by decide +kernel, by decide +kernel⟩ (fun _ _ _ hk h => h.mono hk) ?_
 rintro s K hs ⟨h, hno⟩
 refine ⟨Nat.le_of_ble_eq_true rfl, ?_⟩
 repeat' ((conv=>whnf);first|refine vA ?_|with_reducible first|refine v8 ?_|refine Sp.mk ?_ ?_|refine vS ?_|refine vR ?_|refine vB ?_|refine br_nt ?_|refine br_tt ?_|refine br_ff ?_|refine vP ?_|refine vQ ?_|refine vT ?_|refine vF ?_|refine br_and ?_|refine br_or ?_|refine br_d (fun _=>?_) fun _=>?_|refine vM (fun _=>?_) fun _=>?_)
 refine ⟨s, ?_, ⟨hs⟩, ?_⟩
 ·repeat' ((conv=>whnf);first|with_reducible exact True.intro|exact vW|with_reducible refine And.intro ?_ ?_)
 refine ⟨fun x q => ?_, fun q => ?_⟩
 ·have h := h x q
  obtain ⟨p, bs, rs⟩ := x
  dsimp only [enPl, plC]
  repeat' ((conv=>whnf);first|refine vA ?_|with_reducible first|refine v8 ?_|refine Sp.mk ?_ ?_|refine vS ?_|refine vR ?_|refine vB ?_|refine br_nt ?_|refine br_tt ?_|refine br_ff ?_|refine vP ?_|refine vQ ?_|refine vT ?_|refine vF ?_|refine br_and ?_|refine br_or ?_|refine br_d (fun _=>?_) fun _=>?_|refine vM (fun _=>?_) fun _=>?_)
  refine ⟨_, ?_, h⟩
  repeat' ((conv=>whnf);first|with_reducible exact True.intro|exact vW|with_reducible refine And.intro ?_ ?_)
 ·have h := hno q
  dsimp only [enPl, plC]
  repeat' ((conv=>whnf);first|refine vA ?_|with_reducible first|refine v8 ?_|refine Sp.mk ?_ ?_|refine vS ?_|refine vR ?_|refine vB ?_|refine br_nt ?_|refine br_tt ?_|refine br_ff ?_|refine vP ?_|refine vQ ?_|refine vT ?_|refine vF ?_|refine br_and ?_|refine br_or ?_|refine br_d (fun _=>?_) fun _=>?_|refine vM (fun _=>?_) fun _=>?_)
  refine ⟨_, ?_, h⟩
  repeat' ((conv=>whnf);first|with_reducible exact True.intro|exact vW|with_reducible refine And.intro ?_ ?_)
end Go.Proofs.YtkafoolhbflfkaaGreatDoor.Vc
end
section
/- Part UH: read texts are canonical: the law. -/
namespace Go.Proofs.YtkafoolhbflfkaaGreatDoor.Vc
open Go.Proofs
set_option maxRecDepth 10000
set_option maxHeartbeats 4000000
structure Rtx where
 r : Rd
 t : ByteArray
theorem st6 {k : Int} (h0 : 0 ≤ k) (h : k < 6) (z : List AV) : ∃ v : ByteArray, v.size ≤ 4 ∧ [[AV.str ⟨#[]⟩], [.str ⟨#[48]⟩], [.str ⟨#[32]⟩], [.str ⟨#[10]⟩], [.str ⟨#[49]⟩], [.str ⟨#[98, 97, 99, 107]⟩]].getD (0 + k.toNat) z = [.str v] := by
 rcases (show k = 0 ∨ k = 1 ∨ k = 2 ∨ k = 3 ∨ k = 4 ∨ k = 5 by omega) with rfl | rfl | rfl | rfl | rfl | rfl <;> exact ⟨_, by decide, rfl⟩
def C217 : GC := conG (X := Rtx) (fun x => [.ptr 0 0, .str x.t]) (fun x => [rdO x.r.b x.r.p]) (fun x => x.r.okn 600000000 ∧ x.t.size ≤ 1000000) fun x K => ∀ (u : ByteArray) (p' : Int), x.r.p ≤ p' → p' ≤ x.r.p + 2 → u.size ≤ x.t.size + 4 → K (.str u) [rdO x.r.b p']
theorem F217 : GG 90 C217 := by
 refine fitG [] (by simp) [(64, C52)] (by simp only [List.mem_cons, List.not_mem_nil, or_false]; rintro _ rfl <;> first | exact F52) Tryz.f90 ⟨rfl, by decide +kernel, by decide +kernel⟩ (by intro x K K2 hk h; (try dsimp only at h ⊢); intros; apply hk; first | exact h | (apply h <;> assumption)) ?_
 rintro ⟨⟨b, p⟩, t⟩ K ⟨⟨h1, h2, h3, h4⟩, h5⟩ h
 refine ⟨Nat.le_of_ble_eq_true rfl, ?_⟩
 dsimp only at h h1 h2 h3 h4 h5 ⊢
 repeat' ((conv=>whnf);first|refine vA ?_|with_reducible first|refine v8 ?_|refine Sp.mk ?_ ?_|refine vS ?_|refine vR ?_|refine vB ?_|refine br_nt ?_|refine br_tt ?_|refine br_ff ?_|refine vP ?_|refine vQ ?_|refine vT ?_|refine vF ?_|refine br_and ?_|refine br_or ?_|refine br_d (fun _=>?_) fun _=>?_|refine vM (fun _=>?_) fun _=>?_)
 ·refine ⟨_, _, [some 0], [], rfl, rfl, ?_, ?_, h ⟨#[10]⟩ p (by omega) (by omega) (by show 1 ≤ _; omega)⟩
  ·repeat' ((conv=>whnf);first|with_reducible exact True.intro|exact vW|with_reducible refine And.intro ?_ ?_)
  ·repeat' ((conv=>whnf);first|with_reducible exact True.intro|exact vW|with_reducible refine And.intro ?_ ?_)
 rename_i ht
 refine ⟨_, _, [0], [], rfl, ?_, ?_, (⟨b, p⟩, t.size), rfl, rfl, ⟨⟨h1, h2, ?_, ?_⟩, ?_⟩, ?_⟩
 ·repeat' ((conv=>whnf);first|with_reducible exact True.intro|exact vW|with_reducible refine And.intro ?_ ?_)
  try exact Chk.mk (by rw [pw_sh (by assumption)])
 ·repeat' ((conv=>whnf);first|with_reducible exact True.intro|exact vW|with_reducible refine And.intro ?_ ?_)
 ·dsimp only; omega
 ·dsimp only; omega
 ·unfold i64r; dsimp only; omega
 intro k p1 a0 a1 a2
 dsimp only at a0 a1 a2
 repeat' ((conv=>whnf);first|refine vA ?_|with_reducible first|refine v8 ?_|refine Sp.mk ?_ ?_|refine vS ?_|refine vR ?_|refine vB ?_|refine br_nt ?_|refine br_tt ?_|refine br_ff ?_|refine vP ?_|refine vQ ?_|refine vT ?_|refine vF ?_|refine br_and ?_|refine br_or ?_|refine br_d (fun _=>?_) fun _=>?_|refine vM (fun _=>?_) fun _=>?_)
 refine Dr.mk ⟨(.rd 0 (.rd 1 (.rd 2 (.rd 4 (.rd 9 (.rd 10 (.rd 11 (.rd 12 (.ef 3 (.ef 5 (.rd 6 (.rd 7 (.rd 8 (.rd 13 (.rd 14 .dn))))) .no) (.ef 5 (.ef 3 (.rd 6 (.rd 7 (.rd 8 (.rd 13 (.rd 14 .dn))))) .no) .no)))))))))), by decide +kernel, ?_⟩
 repeat' ((conv=>whnf);first|refine vA ?_|with_reducible first|refine v8 ?_|refine Sp.mk ?_ ?_|refine vS ?_|refine vR ?_|refine vB ?_|refine br_nt ?_|refine br_tt ?_|refine br_ff ?_|refine vP ?_|refine vQ ?_|refine vT ?_|refine vF ?_|refine br_and ?_|refine br_or ?_|refine br_d (fun _=>?_) fun _=>?_|refine vM (fun _=>?_) fun _=>?_)
 all_goals
  refine ⟨_, _, [0], [], rfl, ?_, ?_, (⟨b, p1⟩, 6), rfl, rfl, ⟨⟨h1, h2, ?_, ?_⟩, ?_⟩, ?_⟩
  ·repeat' ((conv=>whnf);first|with_reducible exact True.intro|exact vW|with_reducible refine And.intro ?_ ?_)
   try exact Chk.mk (by rw [pw_sh (by assumption)])
  ·repeat' ((conv=>whnf);first|with_reducible exact True.intro|exact vW|with_reducible refine And.intro ?_ ?_)
  ·dsimp only; omega
  ·dsimp only; omega
  ·unfold i64r; dsimp only; omega
  intro j p2 c0 c1 c2
  dsimp only at c0 c1 c2
  obtain ⟨v, v1, hv⟩ := st6 (c1 (by decide)).1 (c1 (by decide)).2 (lookT TT 9).z
  have a3 := a1 (by omega)
  have e1 : (t.extract (Int.toNat 0) k.toNat).size ≤ k.toNat := by rw [ByteArray.size_extract]; have := Nat.min_le_left k.toNat t.size; show min k.toNat t.size - 0 ≤ _; omega
  have e2 : (t.extract (k + 1).toNat (t.size : Int).toNat).size ≤ t.size - (k + 1).toNat := by rw [ByteArray.size_extract]; exact Nat.sub_le_sub_right (Nat.min_le_right _ _) _
  have e3 : (t.extract (Int.toNat 0) k.toNat ++ v).size ≤ k.toNat + 4 := by rw [ByteArray.size_append]; omega
  have e4 : (t.extract (Int.toNat 0) k.toNat ++ v ++ t.extract (k + 1).toNat (t.size : Int).toNat).size ≤ t.size + 4 := by rw [ByteArray.size_append]; omega
  repeat' ((conv=>whnf);first|refine vA ?_|with_reducible first|refine v8 ?_|refine Sp.mk ?_ ?_|refine vS ?_|refine vR ?_|refine vB ?_|refine br_nt ?_|refine br_tt ?_|refine br_ff ?_|refine vP ?_|refine vQ ?_|refine vT ?_|refine vF ?_|refine br_and ?_|refine br_or ?_|refine br_d (fun _=>?_) fun _=>?_|refine vM (fun _=>?_) fun _=>?_)
 all_goals try
  dsimp only [List.drop]
  rw [hv]
  repeat' ((conv=>whnf);first|refine vA ?_|with_reducible first|refine v8 ?_|refine Sp.mk ?_ ?_|refine vS ?_|refine vR ?_|refine vB ?_|refine br_nt ?_|refine br_tt ?_|refine br_ff ?_|refine vP ?_|refine vQ ?_|refine vT ?_|refine vF ?_|refine br_and ?_|refine br_or ?_|refine br_d (fun _=>?_) fun _=>?_|refine vM (fun _=>?_) fun _=>?_)
 all_goals
  refine ⟨_, _, [some 0], [], rfl, rfl, ?_, ?_, h _ p2 (by omega) (by omega) e4⟩
  ·repeat' ((conv=>whnf);first|with_reducible exact True.intro|exact vW|with_reducible refine And.intro ?_ ?_)
  ·repeat' ((conv=>whnf);first|with_reducible exact True.intro|exact vW|with_reducible refine And.intro ?_ ?_)
theorem I_of {x : Place} (h : placeOk x) : placeI x := by
 have hb := placeOk_small h
 exact ⟨⟨⟨⟨by have := hb.2.1; show -9223372036854775808 ≤ x.p; omega, by have := hb.2.2.1; show x.p ≤ 9223372036854775807; omega⟩, fun b q => by have := hb.1.2 b q; exact ⟨by omega, by omega⟩⟩, by have := hb.1.1; show x.bs.length < _; omega⟩, by have := h.2.1.2; omega, fun r q => by have := hb.2.2.2 r q; omega⟩
end Go.Proofs.YtkafoolhbflfkaaGreatDoor.Vc
end
section
/- Part YB: stores that are opened, acted at and saved: the plain law. -/
namespace Go.Proofs.YtkafoolhbflfkaaGreatDoor.Vc
open Go.Proofs
set_option maxRecDepth 10000
set_option maxHeartbeats 4000000
open Classical in
noncomputable def plOf (s : ByteArray) : Place := if h : ∃ x, isPt s x then Classical.choose h else default
theorem plOf_of {s : ByteArray} {x : Place} (h : isPt s x) : plOf s = x := by
 unfold plOf
 have hx : ∃ x, isPt s x := ⟨x, h⟩
 rw [dif_pos hx]
 exact isPt_one (Classical.choose_spec hx) h
theorem plOf_is {s : Store} (h : isSt s) : isPt s.saved (plOf s.saved) := by
 obtain ⟨x, hx⟩ := h.1
 rw [plOf_of hx]
 exact hx
noncomputable def opD (s : Store) : Desk := (runD ⟨plOf s.saved, []⟩ (jr s.log)).1
theorem desk0_ok {x : Place} (h : placeOk x) : deskOk ⟨x, []⟩ := ⟨h, (by decide : 0 ≤ 8), fun _ q => by cases q⟩
theorem opD_ok {s : Store} (h : isSt s) : deskOk (opD s) := runD_ok (desk0_ok (plOf_is h).1) _
open Classical in
noncomputable def openS (s : Store) : Option Desk := if isSt s then some (opD s) else none
structure canAct (s : Store) (a : Dd) : Prop where
 all : jn s.log = s.log.size
 can : (doD (opD s) a).isSome = true
 ok : okDd a
 fit : s.log.size + (deedT a).size + 1 ≤ 1000
def addL (s : Store) (a : Dd) : Store := ⟨s.saved, s.log ++ (deedT a ++ ⟨#[10]⟩), s.sure⟩
open Classical in
noncomputable def actS (s : Store) (a : Dd) : Option Store := if isSt s ∧ canAct s a then some (addL s a) else none
open Classical in
noncomputable def actR (s : Store) (a : Dd) : Store := if isSt s then (if canAct s a then addL s a else s) else default
theorem jr_nil : jr ⟨#[]⟩ = [] ∧ jn ⟨#[]⟩ = 0 := jr_of (l := []) (r := []) ⟨fun _ h => (by cases h), rfl, fun _ _ _ => no_line⟩
theorem isPt_new {x : Place} (h : placeOk x) : isPt (plT x) x := ⟨h, rfl⟩
theorem isSt_new {x : Place} (h : placeOk x) : isSt ⟨plT x, ⟨#[]⟩, 0⟩ := ⟨⟨x, isPt_new h⟩, (by decide : 0 ≤ 1000), Int.le_refl 0, Int.le_refl 0⟩
theorem opD_new {x : Place} (h : placeOk x) : opD ⟨plT x, ⟨#[]⟩, 0⟩ = ⟨x, []⟩ := by
 unfold opD
 dsimp only
 rw [jr_nil.1, plOf_of (isPt_new h)]
 rfl
theorem ext_take0 {s : ByteArray} {n : Nat} : (s.extract 0 n).data.toList = s.data.toList.take n := by
 rw [ext_list, List.drop_zero, Nat.sub_zero]
theorem jr_cut (s : ByteArray) : jr (s.extract 0 (jn s)) = jr s ∧ jn (s.extract 0 (jn s)) = jn s ∧ (s.extract 0 (jn s)).size = jn s := by
 obtain ⟨r, hr⟩ := jr_spec s
 have e : (s.extract 0 (jn s)).data.toList = jl (jr s) := by
  rw [ext_take0, hr.eq]
  exact List.take_left' rfl
 have h := isJr_jl hr.ok
 rw [← e] at h
 obtain ⟨g1, g2⟩ := jr_of h
 refine ⟨g1, g2, ?_⟩
 rw [ByteArray.size_extract]
 have := jn_le s
 omega
theorem jr_whole {s : ByteArray} (h : jn s = s.size) : s.data.toList = jl (jr s) := by
 obtain ⟨r, hr⟩ := jr_spec s
 have hl := congrArg List.length hr.eq
 rw [List.length_append, Array.length_toList] at hl
 have h' : (jl (jr s)).length = s.data.size := h
 have hr0 : r = [] := List.eq_nil_of_length_eq_zero (by omega)
 rw [hr0] at hr
 exact hr.eq.trans (List.append_nil _)
theorem jr_add {s : ByteArray} {a : Dd} (h : jn s = s.size) (ha : okDd a) : jr (s ++ (deedT a ++ ⟨#[10]⟩)) = jr s ++ [a] ∧ jn (s ++ (deedT a ++ ⟨#[10]⟩)) = (s ++ (deedT a ++ ⟨#[10]⟩)).size := by
 have hok : ∀ x ∈ jr s ++ [a], okDd x := fun x hx => (List.mem_append.1 hx).elim (fun q => (jr_mem q).1) fun q => by rw [List.mem_singleton.1 q]; exact ha
 have e : (s ++ (deedT a ++ ⟨#[10]⟩)).data.toList = jl (jr s ++ [a]) := by
  rw [jl_app, jl_one, ByteArray.data_append, ByteArray.data_append, Array.toList_append, Array.toList_append, jr_whole h]
  rfl
 have hj := isJr_jl hok
 rw [← e] at hj
 obtain ⟨g1, g2⟩ := jr_of hj
 refine ⟨g1, g2.trans ?_⟩
 rw [← e, Array.length_toList]
 rfl
theorem add_size (s : Store) (a : Dd) : (addL s a).log.size = s.log.size + (deedT a).size + 1 := by
 unfold addL
 dsimp only
 rw [ByteArray.size_append, ByteArray.size_append]
 show _ + (_ + 1) = _
 omega
theorem isSt_add {s : Store} {a : Dd} (h : isSt s) (hc : canAct s a) : isSt (addL s a) := by
 have := add_size s a
 have := hc.fit
 have := h.2.2
 exact ⟨h.1, by omega, this.1, by show s.sure ≤ _; omega⟩
theorem opD_add {s : Store} {a : Dd} {e : Desk} (hc : canAct s a) (he : doD (opD s) a = some e) : opD (addL s a) = e := by
 unfold opD addL
 dsimp only
 rw [(jr_add hc.all hc.ok).1, runD_some he]
theorem canAct_do {s : Store} {a : Dd} (hc : canAct s a) : ∃ e, doD (opD s) a = some e := Option.isSome_iff_exists.1 hc.can
theorem actR_yes {s : Store} {a : Dd} (h : isSt s) (hc : canAct s a) : actR s a = addL s a := by
 unfold actR
 rw [if_pos h, if_pos hc]
theorem actR_no {s : Store} {a : Dd} (h : isSt s) (hc : ¬ canAct s a) : actR s a = s := by
 unfold actR
 rw [if_pos h, if_neg hc]
theorem actS_yes {s : Store} {a : Dd} (h : isSt s) (hc : canAct s a) : actS s a = some (addL s a) := if_pos ⟨h, hc⟩
theorem actS_no {s : Store} {a : Dd} (hc : ¬ (isSt s ∧ canAct s a)) : actS s a = none := if_neg hc
noncomputable def mended (s : Store) : Store := ⟨s.saved, s.log.extract 0 (jn s.log), if (jn s.log : Int) < s.sure then (jn s.log : Int) else s.sure⟩
theorem mendS_yes {s : Store} (h : isSt s) : mendS s = some (mended s) := if_pos h
theorem isSt_mended {s : Store} (h : isSt s) : isSt (mended s) := by
 have h1 := (jr_cut s.log).2.2
 have h2 := jn_le s.log
 have h3 := h.2.1
 have h4 := h.2.2
 refine ⟨h.1, ?_, ?_, ?_⟩
 ·show (s.log.extract 0 (jn s.log)).size ≤ 1000
  omega
 ·show 0 ≤ if (jn s.log : Int) < s.sure then (jn s.log : Int) else s.sure
  split <;> omega
 ·show (if (jn s.log : Int) < s.sure then (jn s.log : Int) else s.sure) ≤ (s.log.extract 0 (jn s.log)).size
  rw [h1]
  split <;> omega
theorem opD_mended (s : Store) : opD (mended s) = opD s := by
 unfold opD mended
 dsimp only
 rw [(jr_cut s.log).1]
theorem mended_all (s : Store) : jn (mended s).log = (mended s).log.size := by
 have h := jr_cut s.log
 exact h.2.1.trans h.2.2.symm
theorem ext_all {s : ByteArray} : s.extract 0 s.size = s := by
 apply bytes_inj
 rw [ext_take0]
 exact List.take_of_length_le (by rw [Array.length_toList]; exact Nat.le_refl _)
theorem isSt_sync {s : Store} (h : isSt s) : isSt ⟨s.saved, s.log, s.log.size⟩ := ⟨h.1, h.2.1, by show (0 : Int) ≤ (s.log.size : Int); omega, Int.le_refl _⟩
theorem opD_sync (s : Store) (n : Int) : opD ⟨s.saved, s.log, n⟩ = opD s := rfl
end Go.Proofs.YtkafoolhbflfkaaGreatDoor.Vc
end
