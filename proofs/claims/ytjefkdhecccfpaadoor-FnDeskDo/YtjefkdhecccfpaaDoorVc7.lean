/- Part XC: deeds that are read, by both sides. -/
import Derived.Test.YtjefkdhecccfpaaDoorVc6
section
namespace Go.Proofs.YtjefkdhecccfpaaDoor.Vc
open Go.Proofs
set_option maxRecDepth 10000
set_option maxHeartbeats 4000000
/-! ### slices.Index -/
/-! ### The implementation's -/
end Go.Proofs.YtjefkdhecccfpaaDoor.Vc
end
section
/- Part XD: deeds that are read, by the reference. -/
namespace Go.Proofs.YtjefkdhecccfpaaDoor.Vc
open Go.Proofs
set_option maxRecDepth 10000
set_option maxHeartbeats 4000000
section
variable {x : Dd} {L : List ByteArray} (hL : L = kindB x.kind :: ((numsOf x).map num ++ wordsOf x)) (h : okDd x)
include hL h
end
end Go.Proofs.YtjefkdhecccfpaaDoor.Vc
end
section
/- Part XF: journals that are read, by both sides. -/
namespace Go.Proofs.YtjefkdhecccfpaaDoor.Vc
open Go.Proofs
set_option maxRecDepth 10000
set_option maxHeartbeats 4000000
/-! ### strings.Cut -/
/-! ### What has been read -/
structure jrI (s : ByteArray) (l : List Dd) (n : Nat) : Prop where
  ok : ∀ x ∈ l, okDd x
  nn : n = (jl l).length
  le : n ≤ s.size
  eq : s.data.toList = jl l ++ s.data.toList.drop n
theorem jrI.end {s : ByteArray} {l : List Dd} {n : Nat} (h : jrI s l n) (hs : ∀ x t, okDd x → s.data.toList.drop n ≠ lineL x ++ t) : jr s = l ∧ jn s = n := by
  obtain ⟨e1, e2⟩ := jr_of ⟨h.ok, h.eq, hs⟩
  exact ⟨e1, e2.trans h.nn.symm⟩
theorem jrI.step {s : ByteArray} {l : List Dd} {n : Nat} {p : ByteArray} {x : Dd} {r : List UInt8} (h : jrI s l n) (hp : s.data.toList.drop n = p.data.toList ++ 10 :: r) (hx : isDd p x) : jrI s (l ++ [x]) (n + (p.size + 1)) := by
  have hl : lineL x = p.data.toList ++ [10] := by unfold lineL; rw [hx.2]
  have hn : (lineL x).length = p.size + 1 := by rw [line_len, hx.2]
  have hlen : (s.data.toList.drop n).length = s.size - n := by rw [List.length_drop, Array.length_toList]; rfl
  refine ⟨fun y hy => (List.mem_append.1 hy).elim (h.ok y) fun q => by rw [List.mem_singleton.1 q]; exact hx.1, ?_, ?_, ?_⟩
  · rw [jl_app, jl_one, List.length_append, ← h.nn, hn]
  · have := congrArg List.length hp
    rw [hlen, List.length_append, Array.length_toList] at this
    simp only [List.length_cons] at this
    have hps : p.size = p.data.size := rfl
    have := h.le
    omega
  · have e2 : s.data.toList.drop (n + (p.size + 1)) = r := by
      rw [← List.drop_drop, hp, show p.data.toList ++ 10 :: r = (p.data.toList ++ [10]) ++ r by simp]
      exact List.drop_left' (by rw [List.length_append, Array.length_toList]; rfl)
    rw [e2, jl_app, jl_one, hl]
    have := h.eq
    rw [hp] at this
    rw [this]
    simp
/-! ### The implementation's -/
end Go.Proofs.YtjefkdhecccfpaaDoor.Vc
end
section
/- Part UM: marks in memory of one's own. -/
namespace Go.Proofs.YtjefkdhecccfpaaDoor.Vc
open Go.Proofs
set_option maxRecDepth 10000
set_option maxHeartbeats 4000000
end Go.Proofs.YtjefkdhecccfpaaDoor.Vc
end
section
/- Part XG: journals, by the reference; marks of deeds. -/
namespace Go.Proofs.YtjefkdhecccfpaaDoor.Vc
open Go.Proofs
set_option maxRecDepth 10000
set_option maxHeartbeats 4000000
/-! ### Marks -/
end Go.Proofs.YtjefkdhecccfpaaDoor.Vc
end
section
/- Part UE: places that are read, by the reference. -/
namespace Go.Proofs.YtjefkdhecccfpaaDoor.Vc
open Go.Proofs
set_option maxRecDepth 10000
set_option maxHeartbeats 4000000
def isPt (s : ByteArray) (x : Place) : Prop := placeOk x ∧ plT x = s
def rpPost (s : ByteArray) (K : AV → Prop) : Prop := (∀ x, isPt s x → K (.tup [enPl x, .bool true])) ∧ ((¬ ∃ x, isPt s x) → K (.tup [enPl default, .bool false]))
theorem rpPost.mono {s : ByteArray} {K K2 : AV → Prop} (hk : ∀ r, K r → K2 r) (h : rpPost s K) : rpPost s K2 := ⟨fun x q => hk _ (h.1 x q), fun q => hk _ (h.2 q)⟩
end Go.Proofs.YtjefkdhecccfpaaDoor.Vc
end
section
/- Part UF: places that are read, by the implementation. -/
namespace Go.Proofs.YtjefkdhecccfpaaDoor.Vc
open Go.Proofs
set_option maxRecDepth 10000
set_option maxHeartbeats 4000000
end Go.Proofs.YtjefkdhecccfpaaDoor.Vc
end
section
/- Part UG: texts of places are read: the law. -/
namespace Go.Proofs.YtjefkdhecccfpaaDoor.Vc
open Go.Proofs
set_option maxRecDepth 10000
set_option maxHeartbeats 4000000
end Go.Proofs.YtjefkdhecccfpaaDoor.Vc
end
section
/- Part UH: read texts are canonical: the law. -/
namespace Go.Proofs.YtjefkdhecccfpaaDoor.Vc
open Go.Proofs
set_option maxRecDepth 10000
set_option maxHeartbeats 4000000
theorem I_of {x : Place} (h : placeOk x) : placeI x := by
  have hb := placeOk_small h
  exact ⟨⟨⟨⟨by have := hb.2.1; show -9223372036854775808 ≤ x.p; omega, by have := hb.2.2.1; show x.p ≤ 9223372036854775807; omega⟩, fun b q => by have := hb.1.2 b q; exact ⟨by omega, by omega⟩⟩, by have := hb.1.1; show x.bs.length < _; omega⟩, by have := h.2.1.2; omega, fun r q => by have := hb.2.2.2 r q; omega⟩
end Go.Proofs.YtjefkdhecccfpaaDoor.Vc
end
section
/- Part XE: the laws on texts of deeds that are read. -/
namespace Go.Proofs.YtjefkdhecccfpaaDoor.Vc
open Go.Proofs
set_option maxRecDepth 10000
set_option maxHeartbeats 4000000
theorem drawnP.S {x : Place} (h : drawnP x) : placeS x := ⟨h.I, h.bl, Nat.le_trans h.rl (by decide)⟩
end Go.Proofs.YtjefkdhecccfpaaDoor.Vc
end
section
/- Part XH: deeds that are drawn; the laws on journals. -/
namespace Go.Proofs.YtjefkdhecccfpaaDoor.Vc
open Go.Proofs
set_option maxRecDepth 10000
set_option maxHeartbeats 4000000
def drawnL (l : List Dd) : Prop := l.length ≤ 6 ∧ ∀ a ∈ l, drawnA a
theorem wsum_le {l : List Dd} {M : Nat} (h : ∀ a ∈ l, a.words.size ≤ M) : ∀ i, i ≤ l.length → wsum l i ≤ M * i
  | 0, _ => Nat.le_refl _
  | i + 1, hi => by
    have h1 := wsum_le h i (by omega)
    have h2 := h _ (getD_mem' (d := default) hi)
    show wsum l i + _ ≤ _
    rw [Nat.mul_add, Nat.mul_one]
    omega
theorem drawnL.j {l : List Dd} (h : drawnL l) : jOk l := by
  have := wsum_le (M := 10000) (fun a ha => (h.2 a ha).w0) _ (Nat.le_refl l.length)
  have := h.1
  unfold jOk
  omega
end Go.Proofs.YtjefkdhecccfpaaDoor.Vc
end
section
/- Part TP: desks whose past is a row of one's own. -/
namespace Go.Proofs.YtjefkdhecccfpaaDoor.Vc
open Go.Proofs
set_option maxRecDepth 10000
set_option maxHeartbeats 4000000
structure Dk where
  x : Place
  L : List Place
  n : Nat
def Dk.d (k : Dk) : Desk := ⟨k.x, k.L.take k.n⟩
def dkV (k : Dk) (id : Nat) : AV := .agg [.int .i64 k.x.p, slI k.x.bs, slS k.x.rules, .row id 3 0 k.n]
theorem take_get {L : List Place} {n i : Nat} (h : i < n) : (L.take n).getD i default = L.getD i default := by
  rw [List.getD_eq_getElem?_getD, List.getD_eq_getElem?_getD, List.getElem?_take_of_lt h]
def C139r : GC := conG (X := Dk) (fun k => [dkV k 0]) (fun k => [psO k.L]) (fun k => deskI k.d ∧ k.n ≤ k.L.length) fun k K => K (.bool (decide (deskOk k.d))) [psO k.L]
theorem F139r : GG 22 C139r := by
  refine fitG [(47, C127)] (by simp only [List.mem_cons, List.not_mem_nil, or_false]; rintro _ rfl <;> first | exact F127) [] (by simp) Tryd.f22 ⟨rfl, by decide +kernel, by decide +kernel⟩ (by intro x K K2 hk h; (try dsimp only at h ⊢); intros; apply hk; first | exact h | (apply h <;> assumption)) ?_
  rintro ⟨⟨p, bs, rs⟩, L, n⟩ K ⟨hI, hn⟩ h
  refine ⟨Nat.le_of_ble_eq_true rfl, ?_⟩
  obtain ⟨l, hl⟩ : ∃ l, L.take n = l := ⟨_, rfl⟩
  have hll : l.length = n := by rw [← hl, List.length_take]; exact Nat.min_eq_left hn
  have hget : ∀ i, i < n → L.getD i default = l.getD i default := fun i hi => by rw [← hl, take_get hi]
  replace hI : deskI ⟨⟨p, bs, rs⟩, l⟩ := by rw [← hl]; exact hI
  replace h : K (.bool (decide (deskOk ⟨⟨p, bs, rs⟩, l⟩))) [psO L] := by rw [← hl]; exact h
  have hI1 := hI.1
  have hI2 := hI.2.2
  have hI3 := hI.2.1
  dsimp only [dkV, psO] at h hI1 hI2 hI3 hn ⊢
  repeat' ((conv => whnf); first | refine vA ?_ | with_reducible first | refine v8 ?_ | refine Sp.mk ?_ ?_ | refine vS ?_ | refine vR ?_ | refine vB ?_ | refine br_nt ?_ | refine br_tt ?_ | refine br_ff ?_ | refine vP ?_ | refine vQ ?_ | refine vT ?_ | refine vF ?_ | refine br_and ?_ | refine br_or ?_ | refine br_d (fun _ => ?_) fun _ => ?_ | refine vM (fun _ => ?_) fun _ => ?_)
  refine Lp.mk ⟨Nat, fun i => [(1, .ptr 1 0), (3, .int .i64 i)], fun _ => [psO L, .box [.int .i64 p, slI bs, slS rs, .row 0 3 0 n]], fun i => i ≤ l.length ∧ ∀ j, j < i → placeOk (l.getD j default), fun i => l.length - i, ⟨0, ⟨Nat.zero_le _, fun j hj => absurd hj (Nat.not_lt_zero _)⟩, ⟨⟨[some 0, some 1], [], rfl, rfl, ?_, ?_⟩⟩⟩, ?_⟩
  · repeat' ((conv => whnf); first | with_reducible exact True.intro | exact vW | with_reducible refine And.intro ?_ ?_)
  · repeat' ((conv => whnf); first | with_reducible exact True.intro | exact vW | with_reducible refine And.intro ?_ ?_)
  rintro i ⟨i1, i2⟩
  dsimp only [psO]
  repeat' ((conv => whnf); first | refine vA ?_ | with_reducible first | refine v8 ?_ | refine Sp.mk ?_ ?_ | refine vS ?_ | refine vR ?_ | refine vB ?_ | refine br_nt ?_ | refine br_tt ?_ | refine br_ff ?_ | refine vP ?_ | refine vQ ?_ | refine vT ?_ | refine vF ?_ | refine br_and ?_ | refine br_or ?_ | refine br_d (fun _ => ?_) fun _ => ?_ | refine vM (fun _ => ?_) fun _ => ?_)
  · rename_i hi
    have hi : i < l.length := by omega
    refine ⟨L.getD i default, ?_, ⟨by rw [hget i (by omega)]; exact hI2 _ (getD_mem' hi)⟩, ?_⟩
    · repeat' ((conv => whnf); first | with_reducible exact True.intro | exact vW | with_reducible refine And.intro ?_ ?_)
    rw [hget i (by omega)]
    repeat' ((conv => whnf); first | refine vA ?_ | with_reducible first | refine v8 ?_ | refine Sp.mk ?_ ?_ | refine vS ?_ | refine vR ?_ | refine vB ?_ | refine br_nt ?_ | refine br_tt ?_ | refine br_ff ?_ | refine vP ?_ | refine vQ ?_ | refine vT ?_ | refine vF ?_ | refine br_and ?_ | refine br_or ?_ | refine br_d (fun _ => ?_) fun _ => ?_ | refine vM (fun _ => ?_) fun _ => ?_)
    · rename_i hb
      refine ⟨i + 1, ⟨by omega, fun j hj => ?_⟩, by omega, ⟨⟨[some 0, some 1], [], rfl, rfl, ?_, ?_⟩⟩⟩
      · by_cases e : j = i
        · subst e; exact hb
        · exact i2 j (by omega)
      · repeat' ((conv => whnf); first | with_reducible exact True.intro | exact vW | with_reducible refine And.intro ?_ ?_)
      · repeat' ((conv => whnf); first | with_reducible exact True.intro | exact vW | with_reducible refine And.intro ?_ ?_)
    · rename_i hb
      rw [decide_eq_false fun q : deskOk ⟨⟨p, bs, rs⟩, l⟩ => hb (q.2.2 _ (getD_mem' hi))] at h
      refine ⟨_, _, [some 0], [], rfl, rfl, ?_, ?_, h⟩
      · repeat' ((conv => whnf); first | with_reducible exact True.intro | exact vW | with_reducible refine And.intro ?_ ?_)
      · repeat' ((conv => whnf); first | with_reducible exact True.intro | exact vW | with_reducible refine And.intro ?_ ?_)
  · rename_i hi
    have hall : ∀ p ∈ l, placeOk p := all_of_getD (d := default) fun j hj => i2 j (by omega)
    refine ⟨⟨p, bs, rs⟩, ?_, ⟨hI1⟩, ?_⟩
    · repeat' ((conv => whnf); first | with_reducible exact True.intro | exact vW | with_reducible refine And.intro ?_ ?_)
    repeat' ((conv => whnf); first | refine vA ?_ | with_reducible first | refine v8 ?_ | refine Sp.mk ?_ ?_ | refine vS ?_ | refine vR ?_ | refine vB ?_ | refine br_nt ?_ | refine br_tt ?_ | refine br_ff ?_ | refine vP ?_ | refine vQ ?_ | refine vT ?_ | refine vF ?_ | refine br_and ?_ | refine br_or ?_ | refine br_d (fun _ => ?_) fun _ => ?_ | refine vM (fun _ => ?_) fun _ => ?_)
    · rename_i hO
      have e : decide (deskOk ⟨⟨p, bs, rs⟩, l⟩) = decide ((n : Int) ≤ 8) := decide_eq_decide.2 ⟨fun q => by have := q.2.1; dsimp only at this; omega, fun q => ⟨hO, by dsimp only; omega, hall⟩⟩
      rw [e] at h
      refine ⟨_, _, [some 0], [], rfl, rfl, ?_, ?_, h⟩
      · repeat' ((conv => whnf); first | with_reducible exact True.intro | exact vW | with_reducible refine And.intro ?_ ?_)
      · repeat' ((conv => whnf); first | with_reducible exact True.intro | exact vW | with_reducible refine And.intro ?_ ?_)
    · rename_i hO
      rw [decide_eq_false fun q : deskOk ⟨⟨p, bs, rs⟩, l⟩ => hO q.1] at h
      refine ⟨_, _, [some 0], [], rfl, rfl, ?_, ?_, h⟩
      · repeat' ((conv => whnf); first | with_reducible exact True.intro | exact vW | with_reducible refine And.intro ?_ ?_)
      · repeat' ((conv => whnf); first | with_reducible exact True.intro | exact vW | with_reducible refine And.intro ?_ ?_)
def C198r : GC := conG (X := Dk) (fun k => [dkV k 0]) (fun k => [psO k.L]) (fun k => shortD k.d ∧ k.n ≤ k.L.length) fun k K => K (dkV k 1) [psO k.L, psO (k.L.take k.n)]
theorem F198r : GG 45 C198r := by
  refine fitG [(80, C158)] (by simp only [List.mem_cons, List.not_mem_nil, or_false]; rintro _ rfl <;> first | exact F158) [] (by simp) Tryd.f45 ⟨rfl, by decide +kernel, by decide +kernel⟩ (by intro x K K2 hk h; (try dsimp only at h ⊢); intros; apply hk; first | exact h | (apply h <;> assumption)) ?_
  rintro ⟨⟨p, bs, rs⟩, L, n⟩ K ⟨hs, hn⟩ h
  refine ⟨Nat.le_of_ble_eq_true rfl, ?_⟩
  obtain ⟨l, hl⟩ : ∃ l, L.take n = l := ⟨_, rfl⟩
  have hll : l.length = n := by rw [← hl, List.length_take]; exact Nat.min_eq_left hn
  have hget : ∀ i, i < n → L.getD i default = l.getD i default := fun i hi => by rw [← hl, take_get hi]
  replace hs : shortD ⟨⟨p, bs, rs⟩, l⟩ := by rw [← hl]; exact hs
  dsimp only [dkV] at h
  rw [hl] at h
  obtain ⟨h1, h2, h3⟩ := hs
  unfold psO at h
  dsimp only [dkV, psO] at h h1 h2 h3 hn ⊢
  repeat' ((conv => whnf); first | refine vA ?_ | with_reducible first | refine v8 ?_ | refine Sp.mk ?_ ?_ | refine vS ?_ | refine vR ?_ | refine vB ?_ | refine br_nt ?_ | refine br_tt ?_ | refine br_ff ?_ | refine vP ?_ | refine vQ ?_ | refine vT ?_ | refine vF ?_ | refine br_and ?_ | refine br_or ?_ | refine br_d (fun _ => ?_) fun _ => ?_ | refine vM (fun _ => ?_) fun _ => ?_)
  refine ⟨⟨p, bs, rs⟩, ?_, ⟨h1⟩, ?_⟩
  · repeat' ((conv => whnf); first | with_reducible exact True.intro | exact vW | with_reducible refine And.intro ?_ ?_)
  dsimp only [enPl, plC]
  repeat' ((conv => whnf); first | refine vA ?_ | with_reducible first | refine v8 ?_ | refine Sp.mk ?_ ?_ | refine vS ?_ | refine vR ?_ | refine vB ?_ | refine br_nt ?_ | refine br_tt ?_ | refine br_ff ?_ | refine vP ?_ | refine vQ ?_ | refine vT ?_ | refine vF ?_ | refine br_and ?_ | refine br_or ?_ | refine br_d (fun _ => ?_) fun _ => ?_ | refine vM (fun _ => ?_) fun _ => ?_)
  refine Lp.mk ⟨Nat, fun i => [(1, .ptr 1 0), (2, .ptr 2 0), (3, .ptr 3 0), (4, .int .i64 i)], fun i => [psO L, .box [.int .i64 p, slI bs, slS rs, .row 0 3 0 n], .box [.int .i64 0, .nils, .nils, .nils], .box [.int .i64 p, slI bs, slS rs, .row 4 3 0 (l.take i).length], psO (l.take i)], fun i => i ≤ l.length, fun i => l.length - i, ⟨0, Nat.zero_le _, ⟨⟨[some 0, some 1, some 2, some 3, none], [], rfl, rfl, ?_, ?_⟩⟩⟩, ?_⟩
  · repeat' ((conv => whnf); first | with_reducible exact True.intro | exact vW | with_reducible refine And.intro ?_ ?_)
  · repeat' ((conv => whnf); first | with_reducible exact True.intro | exact vW | with_reducible refine And.intro ?_ ?_)
  intro i i1
  dsimp only [psO]
  have hti : (l.take i).length ≤ 100000 := by rw [List.length_take]; omega
  repeat' ((conv => whnf); first | refine vA ?_ | with_reducible first | refine v8 ?_ | refine Sp.mk ?_ ?_ | refine vS ?_ | refine vR ?_ | refine vB ?_ | refine br_nt ?_ | refine br_tt ?_ | refine br_ff ?_ | refine vP ?_ | refine vQ ?_ | refine vT ?_ | refine vF ?_ | refine br_and ?_ | refine br_or ?_ | refine br_d (fun _ => ?_) fun _ => ?_ | refine vM (fun _ => ?_) fun _ => ?_)
  · rename_i hi
    have hi : i < l.length := by omega
    have hsn : l.take (i + 1) = l.take i ++ [l.getD i default] := take_succ' default hi
    refine Dr.mk ⟨(.rd 0 (.rd 1 (.rd 2 (.rd 3 (.rd 4 (.rd 5 (.rd 6 (.ef 7 (.ef 8 (.ef 9 (.rd 10 (.ef 11 .dn .no)) .no) .no) .no)))))))), by decide +kernel, ?_⟩
    repeat' ((conv => whnf); first | refine vA ?_ | with_reducible first | refine v8 ?_ | refine Sp.mk ?_ ?_ | refine vS ?_ | refine vR ?_ | refine vB ?_ | refine br_nt ?_ | refine br_tt ?_ | refine br_ff ?_ | refine vP ?_ | refine vQ ?_ | refine vT ?_ | refine vF ?_ | refine br_and ?_ | refine br_or ?_ | refine br_d (fun _ => ?_) fun _ => ?_ | refine vM (fun _ => ?_) fun _ => ?_)
    refine ⟨l.getD i default, ?_, ⟨h3 _ (getD_mem' hi)⟩, ?_⟩
    · rw [← hget i (by omega)]
      repeat' ((conv => whnf); first | with_reducible exact True.intro | exact vW | with_reducible refine And.intro ?_ ?_)
    dsimp only [enPl, plC]
    repeat' ((conv => whnf); first | refine vA ?_ | with_reducible first | refine v8 ?_ | refine Sp.mk ?_ ?_ | refine vS ?_ | refine vR ?_ | refine vB ?_ | refine br_nt ?_ | refine br_tt ?_ | refine br_ff ?_ | refine vP ?_ | refine vQ ?_ | refine vT ?_ | refine vF ?_ | refine br_and ?_ | refine br_or ?_ | refine br_d (fun _ => ?_) fun _ => ?_ | refine vM (fun _ => ?_) fun _ => ?_)
    refine ⟨i + 1, by omega, by omega, ⟨⟨[some 0, some 1, some 2, some 3, some 6], [], rfl, rfl, ?_, ?_⟩⟩⟩
    · repeat' ((conv => whnf); first | with_reducible exact True.intro | exact vW | with_reducible refine And.intro ?_ ?_)
    · repeat' ((conv => whnf); first | with_reducible exact True.intro | exact vW | with_reducible refine And.intro ?_ ?_)
      all_goals first | exact Chk.mk ⟨rfl, by rw [hsn, List.length_append]; rfl⟩ | exact Chk.mk (by rw [hsn]; exact ext_push (enc := plC) (d := default) (l := l.take i) (x := l.getD i default) rfl)
  · rename_i hi
    rw [List.take_of_length_le (by omega)]
    rw [← hll] at h
    repeat' ((conv => whnf); first | refine vA ?_ | with_reducible first | refine v8 ?_ | refine Sp.mk ?_ ?_ | refine vS ?_ | refine vR ?_ | refine vB ?_ | refine br_nt ?_ | refine br_tt ?_ | refine br_ff ?_ | refine vP ?_ | refine vQ ?_ | refine vT ?_ | refine vF ?_ | refine br_and ?_ | refine br_or ?_ | refine br_d (fun _ => ?_) fun _ => ?_ | refine vM (fun _ => ?_) fun _ => ?_)
    refine ⟨_, _, [some 0, some 4], [], rfl, rfl, ?_, ?_, h⟩
    · repeat' ((conv => whnf); first | with_reducible exact True.intro | exact vW | with_reducible refine And.intro ?_ ?_)
    · repeat' ((conv => whnf); first | with_reducible exact True.intro | exact vW | with_reducible refine And.intro ?_ ?_)
structure Dj where
  k : Dk
  a : Dd
def C183r : GC := conG (X := Dj) (fun x => [dkV x.k 0, ded x.a]) (fun x => [psO x.k.L]) (fun x => deskI x.k.d ∧ x.k.n ≤ x.k.L.length ∧ x.k.n ≤ 7 ∧ dedI x.a) fun x K =>
  (¬ deskOk x.k.d → K (.tup [.agg [.int .i64 0, .nils, .nils, .nils], .bool false]) [psO x.k.L]) ∧
  (deskOk x.k.d → ∀ y L' n', n' ≤ L'.length → afterD x.k.d x.a = ⟨y, L'.take n'⟩ → K (.tup [dkV ⟨y, L', n'⟩ 1, .bool (canD x.k.d x.a)]) [psO x.k.L, psO L'])
theorem F183r : GG 12 C183r := by
  refine fitG [(47, C127), (48, C142), (46, C199)] (by simp only [List.mem_cons, List.not_mem_nil, or_false]; rintro _ (rfl | rfl | rfl) <;> first | exact F127 | exact F142 | exact F199) [(22, C139r), (45, C198r)] (by simp only [List.mem_cons, List.not_mem_nil, or_false]; rintro _ (rfl | rfl) <;> first | exact F139r | exact F198r) Tryd.f12 ⟨rfl, by decide +kernel, by decide +kernel⟩ (by rintro x K K2 hk ⟨ha, hb⟩; exact ⟨fun q => hk _ _ (ha q), fun q y L' n' g1 g2 => hk _ _ (hb q y L' n' g1 g2)⟩) ?_
  rintro ⟨⟨⟨p, bs, rs⟩, L, n⟩, ⟨k, a, b, w⟩⟩ K ⟨hI, hn, hn7, ha⟩ ⟨hno, h⟩
  refine ⟨Nat.le_of_ble_eq_true rfl, ?_⟩
  obtain ⟨l, hl⟩ : ∃ l, L.take n = l := ⟨_, rfl⟩
  have hll : l.length = n := by rw [← hl, List.length_take]; exact Nat.min_eq_left hn
  have hdk : Dk.d ⟨⟨p, bs, rs⟩, L, n⟩ = ⟨⟨p, bs, rs⟩, l⟩ := by rw [← hl]; rfl
  dsimp only at hI h hno hn hn7 ha
  rw [hdk] at hI h hno
  dsimp only [dkV, ded, encD]
  unfold dkV at h
  dsimp only at h
  repeat' ((conv => whnf); first | refine vA ?_ | with_reducible first | refine v8 ?_ | refine Sp.mk ?_ ?_ | refine vS ?_ | refine vR ?_ | refine vB ?_ | refine br_nt ?_ | refine br_tt ?_ | refine br_ff ?_ | refine vP ?_ | refine vQ ?_ | refine vT ?_ | refine vF ?_ | refine br_and ?_ | refine br_or ?_ | refine br_d (fun _ => ?_) fun _ => ?_ | refine vM (fun _ => ?_) fun _ => ?_)
  refine ⟨_, _, [0], [], rfl, ?_, ?_, ⟨⟨p, bs, rs⟩, L, n⟩, rfl, rfl, ⟨by rw [hdk]; exact hI, hn⟩, ?_⟩
  · repeat' ((conv => whnf); first | with_reducible exact True.intro | exact vW | with_reducible refine And.intro ?_ ?_)
  · repeat' ((conv => whnf); first | with_reducible exact True.intro | exact vW | with_reducible refine And.intro ?_ ?_)
  dsimp only
  rw [hdk]
  by_cases hO : deskOk ⟨⟨p, bs, rs⟩, l⟩
  · have hs := deskOk_short hO
    have hs2 := hs.2.1
    dsimp only at hs2
    replace h := h hO
    dsimp only [psO]
    repeat' ((conv => whnf); first | refine vA ?_ | with_reducible first | refine v8 ?_ | refine Sp.mk ?_ ?_ | refine vS ?_ | refine vR ?_ | refine vB ?_ | refine br_nt ?_ | refine br_tt ?_ | refine br_ff ?_ | refine vP ?_ | refine vQ ?_ | refine vT ?_ | refine vF ?_ | refine br_and ?_ | refine br_or ?_ | refine br_d (fun _ => ?_) fun _ => ?_ | refine vM (fun _ => ?_) fun _ => ?_)
    refine ⟨_, _, [0], [], rfl, ?_, ?_, ⟨⟨p, bs, rs⟩, L, n⟩, rfl, rfl, ⟨by rw [hdk]; exact hs, hn⟩, ?_⟩
    · repeat' ((conv => whnf); first | with_reducible exact True.intro | exact vW | with_reducible refine And.intro ?_ ?_)
    · repeat' ((conv => whnf); first | with_reducible exact True.intro | exact vW | with_reducible refine And.intro ?_ ?_)
    dsimp only [dkV, psO]
    rw [hl]
    repeat' ((conv => whnf); first | with_reducible refine wk_at 9 ?_ | with_reducible refine wk_at1 9 ?_ | with_reducible refine wk_at2 9 ?_ | refine vA ?_ | with_reducible first | refine v8 ?_ | refine Sp.mk ?_ ?_ | refine vS ?_ | refine vR ?_ | refine vB ?_ | refine br_nt ?_ | refine br_tt ?_ | refine br_ff ?_ | refine vP ?_ | refine vQ ?_ | refine vT ?_ | refine vF ?_ | refine br_and ?_ | refine br_or ?_ | refine br_d (fun _ => ?_) fun _ => ?_ | refine vM (fun _ => ?_) fun _ => ?_)
    · rename_i q1 q2 q3 q4 q5
      have hlp : 0 < l.length := by omega
      have e0 : doD ⟨⟨p, bs, rs⟩, l⟩ ⟨k, a, b, w⟩ = some ⟨l.getD (l.length - 1) default, l.take (l.length - 1)⟩ := if_pos ⟨by subst q1; subst q2; subst q3; subst q4; rfl, hlp⟩
      replace h := h (l.getD (l.length - 1) default) l (l.length - 1) (by omega) (afterD_some hO e0)
      rw [canD_some hO e0] at h
      have e1 : ((n : Int) - 1).toNat = l.length - 1 := by omega
      rw [e1, Nat.zero_add]
      refine ⟨_, _, [some 0, some 4], [], rfl, rfl, ?_, ?_, h⟩
      · repeat' ((conv => whnf); first | with_reducible exact True.intro | exact vW | with_reducible refine And.intro ?_ ?_)
      · repeat' ((conv => whnf); first | with_reducible exact True.intro | exact vW | with_reducible refine And.intro ?_ ?_)
    all_goals
      have hnb : ¬ ((⟨k, a, b, w⟩ : Dd) = backD ∧ 0 < l.length) := by
        rintro ⟨e, e2⟩
        have e3 := congrArg Dd.kind e
        have e4 := congrArg Dd.a e
        have e5 := congrArg Dd.b e
        have e6 := congrArg Dd.words e
        dsimp only [backD] at e3 e4 e5 e6
        first | omega | exact absurd e6 (by assumption)
      refine ⟨Wk.go [(2, .ptr 1 0), (3, .ptr 2 0), (4, .ptr 3 0), (6, .ptr 4 0)] [psO L, .box [.int .i64 p, slI bs, slS rs, .row 0 3 0 n], .box (encD ⟨k, a, b, w⟩), .box [.int .i64 0, .nils, .nils, .nils], .box [.int .i64 p, slI bs, slS rs, .row 5 3 0 n], psO l] ⟨⟨[some 0, some 1, some 2, some 3, some 5, some 4], [], rfl, rfl, ?_, ?_⟩⟩ ?_⟩
      · repeat' ((conv => whnf); first | with_reducible exact True.intro | exact vW | with_reducible refine And.intro ?_ ?_)
      · repeat' ((conv => whnf); first | with_reducible exact True.intro | exact vW | with_reducible refine And.intro ?_ ?_)
      dsimp only [encD, psO]
      repeat' ((conv => whnf); first | refine vA ?_ | with_reducible first | refine v8 ?_ | refine Sp.mk ?_ ?_ | refine vS ?_ | refine vR ?_ | refine vB ?_ | refine br_nt ?_ | refine br_tt ?_ | refine br_ff ?_ | refine vP ?_ | refine vQ ?_ | refine vT ?_ | refine vF ?_ | refine br_and ?_ | refine br_or ?_ | refine br_d (fun _ => ?_) fun _ => ?_ | refine vM (fun _ => ?_) fun _ => ?_)
      refine ⟨⟨⟨p, bs, rs⟩, ⟨k, a, b, w⟩⟩, ?_, ⟨hI.1, hs.1, ha⟩, ?_⟩
      · repeat' ((conv => whnf); first | with_reducible exact True.intro | exact vW | with_reducible refine And.intro ?_ ?_)
      have hMI := madeP_I (a := ⟨k, a, b, w⟩) hI.1 hs.1 ha
      have eD : doD ⟨⟨p, bs, rs⟩, l⟩ ⟨k, a, b, w⟩ = _ := if_neg hnb
      dsimp only at hMI eD ⊢
      generalize madeP ⟨p, bs, rs⟩ ⟨k, a, b, w⟩ = M at hMI eD ⊢
      obtain ⟨mp, mb, mr⟩ := M
      dsimp only [enPl, plC]
      repeat' ((conv => whnf); first | refine vA ?_ | with_reducible first | refine v8 ?_ | refine Sp.mk ?_ ?_ | refine vS ?_ | refine vR ?_ | refine vB ?_ | refine br_nt ?_ | refine br_tt ?_ | refine br_ff ?_ | refine vP ?_ | refine vQ ?_ | refine vT ?_ | refine vF ?_ | refine br_and ?_ | refine br_or ?_ | refine br_d (fun _ => ?_) fun _ => ?_ | refine vM (fun _ => ?_) fun _ => ?_)
      refine Dr.mk ⟨(.rd 0 (.ef 1 (.rd 2 (.rd 3 (.rd 4 (.rd 6 (.rd 7 (.ef 5 (.ef 8 (.rd 9 (.rd 10 .dn)) .no) .no)))))) .no)), by decide +kernel, ?_⟩
      repeat' ((conv => whnf); first | refine vA ?_ | with_reducible first | refine v8 ?_ | refine Sp.mk ?_ ?_ | refine vS ?_ | refine vR ?_ | refine vB ?_ | refine br_nt ?_ | refine br_tt ?_ | refine br_ff ?_ | refine vP ?_ | refine vQ ?_ | refine vT ?_ | refine vF ?_ | refine br_and ?_ | refine br_or ?_ | refine br_d (fun _ => ?_) fun _ => ?_ | refine vM (fun _ => ?_) fun _ => ?_)
      refine ⟨⟨mp, mb, mr⟩, ?_, ⟨hMI⟩, ?_⟩
      · repeat' ((conv => whnf); first | with_reducible exact True.intro | exact vW | with_reducible refine And.intro ?_ ?_)
      repeat' ((conv => whnf); first | refine vA ?_ | with_reducible first | refine v8 ?_ | refine Sp.mk ?_ ?_ | refine vS ?_ | refine vR ?_ | refine vB ?_ | refine br_nt ?_ | refine br_tt ?_ | refine br_ff ?_ | refine vP ?_ | refine vQ ?_ | refine vT ?_ | refine vF ?_ | refine br_and ?_ | refine br_or ?_ | refine br_d (fun _ => ?_) fun _ => ?_ | refine vM (fun _ => ?_) fun _ => ?_)
      · rename_i hp
        replace hp : placeOk ⟨mp, mb, mr⟩ := hp
        refine ⟨⟨mp, mb, mr⟩, ?_, ⟨hMI⟩, ?_⟩
        · repeat' ((conv => whnf); first | with_reducible exact True.intro | exact vW | with_reducible refine And.intro ?_ ?_)
        repeat' ((conv => whnf); first | refine vA ?_ | with_reducible first | refine v8 ?_ | refine Sp.mk ?_ ?_ | refine vS ?_ | refine vR ?_ | refine vB ?_ | refine br_nt ?_ | refine br_tt ?_ | refine br_ff ?_ | refine vP ?_ | refine vQ ?_ | refine vT ?_ | refine vF ?_ | refine br_and ?_ | refine br_or ?_ | refine br_d (fun _ => ?_) fun _ => ?_ | refine vM (fun _ => ?_) fun _ => ?_)
        refine ⟨⟨p, bs, rs⟩, ?_, ⟨hI.1⟩, ?_⟩
        · repeat' ((conv => whnf); first | with_reducible exact True.intro | exact vW | with_reducible refine And.intro ?_ ?_)
        by_cases he : ptext ⟨mp, mb, mr⟩ = ptext ⟨p, bs, rs⟩
        · replace eD : doD ⟨⟨p, bs, rs⟩, l⟩ ⟨k, a, b, w⟩ = none := eD.trans (if_neg fun q => q.2 he)
          replace h := h ⟨p, bs, rs⟩ l n (by omega) ((afterD_none hO eD).trans (by rw [← hll, List.take_length]))
          rw [canD_none eD] at h
          repeat' ((conv => whnf); first | refine vA ?_ | with_reducible first | refine v8 ?_ | refine Sp.mk ?_ ?_ | refine vS ?_ | refine vR ?_ | refine vB ?_ | refine br_nt ?_ | refine br_tt ?_ | refine br_ff ?_ | refine vP ?_ | refine vQ ?_ | refine vT ?_ | refine vF ?_ | refine br_and ?_ | refine br_or ?_ | refine br_d (fun _ => ?_) fun _ => ?_ | refine vM (fun _ => ?_) fun _ => ?_)
          refine ⟨_, _, [some 0, some 5], [], rfl, rfl, ?_, ?_, h⟩
          · repeat' ((conv => whnf); first | with_reducible exact True.intro | exact vW | with_reducible refine And.intro ?_ ?_)
          · repeat' ((conv => whnf); first | with_reducible exact True.intro | exact vW | with_reducible refine And.intro ?_ ?_)
        · replace eD : doD ⟨⟨p, bs, rs⟩, l⟩ ⟨k, a, b, w⟩ = some ⟨⟨mp, mb, mr⟩, pushP l ⟨p, bs, rs⟩⟩ := eD.trans (if_pos ⟨hp, he⟩)
          have h8 : ¬ 8 < (l ++ [(⟨p, bs, rs⟩ : Place)]).length := by
            simp only [List.length_append, List.length_cons, List.length_nil]
            omega
          rw [show pushP l ⟨p, bs, rs⟩ = l ++ [(⟨p, bs, rs⟩ : Place)] from if_neg h8] at eD
          replace h := h ⟨mp, mb, mr⟩ (l ++ [⟨p, bs, rs⟩]) (n + 1) (by rw [List.length_append, hll]; exact Nat.le_refl _) ((afterD_some hO eD).trans (by rw [List.take_of_length_le (by rw [List.length_append, hll]; exact Nat.le_refl _)]))
          rw [canD_some hO eD] at h
          repeat' ((conv => whnf); first | refine vA ?_ | with_reducible first | refine v8 ?_ | refine Sp.mk ?_ ?_ | refine vS ?_ | refine vR ?_ | refine vB ?_ | refine br_nt ?_ | refine br_tt ?_ | refine br_ff ?_ | refine vP ?_ | refine vQ ?_ | refine vT ?_ | refine vF ?_ | refine br_and ?_ | refine br_or ?_ | refine br_d (fun _ => ?_) fun _ => ?_ | refine vM (fun _ => ?_) fun _ => ?_)
          refine ⟨_, _, [some 0, some 8], [], rfl, rfl, ?_, ?_, h⟩
          · repeat' ((conv => whnf); first | with_reducible exact True.intro | exact vW | with_reducible refine And.intro ?_ ?_)
          · subst hll
            repeat' ((conv => whnf); first | with_reducible exact True.intro | exact vW | with_reducible refine And.intro ?_ ?_)
            all_goals exact Chk.mk (ext_push (enc := plC) (d := default) (l := l) (x := ⟨p, bs, rs⟩) rfl)
      · rename_i hp
        replace hp : ¬ placeOk ⟨mp, mb, mr⟩ := hp
        replace eD : doD ⟨⟨p, bs, rs⟩, l⟩ ⟨k, a, b, w⟩ = none := eD.trans (if_neg fun q => hp q.1)
        replace h := h ⟨p, bs, rs⟩ l n (by omega) ((afterD_none hO eD).trans (by rw [← hll, List.take_length]))
        rw [canD_none eD] at h
        refine ⟨_, _, [some 0, some 5], [], rfl, rfl, ?_, ?_, h⟩
        · repeat' ((conv => whnf); first | with_reducible exact True.intro | exact vW | with_reducible refine And.intro ?_ ?_)
        · repeat' ((conv => whnf); first | with_reducible exact True.intro | exact vW | with_reducible refine And.intro ?_ ?_)
  · rw [decide_eq_false hO]
    replace hno := hno hO
    dsimp only [psO] at hno ⊢
    repeat' ((conv => whnf); first | refine vA ?_ | with_reducible first | refine v8 ?_ | refine Sp.mk ?_ ?_ | refine vS ?_ | refine vR ?_ | refine vB ?_ | refine br_nt ?_ | refine br_tt ?_ | refine br_ff ?_ | refine vP ?_ | refine vQ ?_ | refine vT ?_ | refine vF ?_ | refine br_and ?_ | refine br_or ?_ | refine br_d (fun _ => ?_) fun _ => ?_ | refine vM (fun _ => ?_) fun _ => ?_)
    refine ⟨_, _, [some 0], [], rfl, rfl, ?_, ?_, hno⟩
    · repeat' ((conv => whnf); first | with_reducible exact True.intro | exact vW | with_reducible refine And.intro ?_ ?_)
    · repeat' ((conv => whnf); first | with_reducible exact True.intro | exact vW | with_reducible refine And.intro ?_ ?_)
end Go.Proofs.YtjefkdhecccfpaaDoor.Vc
end
section
/- Part TQ: desks that are drawn. -/
namespace Go.Proofs.YtjefkdhecccfpaaDoor.Vc
open Go.Proofs
set_option maxRecDepth 10000
set_option maxHeartbeats 4000000
def C133n : List AV → (AV → Prop) → Prop := con (X := Place) (fun x => [enPl x]) placeI fun x K => (placeOk x → K (.tup [.agg [.int .i64 x.p, slI x.bs, slS x.rules, .nils], .bool true])) ∧ (¬ placeOk x → K (.tup [.agg [.int .i64 0, .nils, .nils, .nils], .bool false]))
theorem F133n : FF 71 C133n := by
  refine fitX [(47, C127), (80, C158)] (by simp only [List.mem_cons, List.not_mem_nil, or_false]; rintro _ (rfl | rfl) <;> first | exact F127 | exact F158) [] (by simp) Tryd.f71 ⟨rfl, by decide +kernel, by decide +kernel⟩ (fun _ _ _ hk h => ⟨fun q => hk _ (h.1 q), fun q => hk _ (h.2 q)⟩) ?_
  rintro ⟨p, bs, rs⟩ K hI ⟨h, hno⟩
  refine ⟨Nat.le_of_ble_eq_true rfl, ?_⟩
  dsimp only [enPl, plC] at h hno ⊢
  repeat' ((conv => whnf); first | refine vA ?_ | with_reducible first | refine v8 ?_ | refine Sp.mk ?_ ?_ | refine vS ?_ | refine vR ?_ | refine vB ?_ | refine br_nt ?_ | refine br_tt ?_ | refine br_ff ?_ | refine vP ?_ | refine vQ ?_ | refine vT ?_ | refine vF ?_ | refine br_and ?_ | refine br_or ?_ | refine br_d (fun _ => ?_) fun _ => ?_ | refine vM (fun _ => ?_) fun _ => ?_)
  refine ⟨⟨p, bs, rs⟩, ?_, ⟨hI⟩, ?_⟩
  · repeat' ((conv => whnf); first | with_reducible exact True.intro | exact vW | with_reducible refine And.intro ?_ ?_)
  repeat' ((conv => whnf); first | refine vA ?_ | with_reducible first | refine v8 ?_ | refine Sp.mk ?_ ?_ | refine vS ?_ | refine vR ?_ | refine vB ?_ | refine br_nt ?_ | refine br_tt ?_ | refine br_ff ?_ | refine vP ?_ | refine vQ ?_ | refine vT ?_ | refine vF ?_ | refine br_and ?_ | refine br_or ?_ | refine br_d (fun _ => ?_) fun _ => ?_ | refine vM (fun _ => ?_) fun _ => ?_)
  · rename_i hO
    replace hO : placeOk ⟨p, bs, rs⟩ := hO
    refine ⟨⟨p, bs, rs⟩, ?_, ⟨placeOk_short hO⟩, ?_⟩
    · repeat' ((conv => whnf); first | with_reducible exact True.intro | exact vW | with_reducible refine And.intro ?_ ?_)
    dsimp only [enPl, plC]
    repeat' ((conv => whnf); first | refine vA ?_ | with_reducible first | refine v8 ?_ | refine Sp.mk ?_ ?_ | refine vS ?_ | refine vR ?_ | refine vB ?_ | refine br_nt ?_ | refine br_tt ?_ | refine br_ff ?_ | refine vP ?_ | refine vQ ?_ | refine vT ?_ | refine vF ?_ | refine br_and ?_ | refine br_or ?_ | refine br_d (fun _ => ?_) fun _ => ?_ | refine vM (fun _ => ?_) fun _ => ?_)
    exact h hO
  · rename_i hO
    exact hno hO
theorem afterD_len (d : Desk) (a : Dd) : (afterD d a).past.length ≤ d.past.length + 1 := by
  unfold afterD
  split
  · unfold doD
    split
    · show (d.past.take _).length ≤ _
      rw [List.length_take]; omega
    · split
      · show (pushP d.past d.now).length ≤ _
        unfold pushP
        split
        · rw [List.length_drop, List.length_append]; exact Nat.le_trans (Nat.sub_le _ _) (Nat.le_refl _)
        · rw [List.length_append]; exact Nat.le_refl _
      · exact Nat.le_succ _
  · exact Nat.zero_le _
theorem take_len' {L : List Place} {n : Nat} (h : n ≤ L.length) : (L.take n).length = n := by rw [List.length_take]; exact Nat.min_eq_left h
def sameC (f : Nat → List AV) (l : List Place) : Prop := ∀ i, i < l.length → ∀ j, j < 3 → cellE ((f i).getD j .undef) ((plC (l.getD i default)).getD j .undef)
theorem sameC_rfl (l : List Place) : sameC (fun i => plC (l.getD i default)) l := fun _ _ _ _ => .inl rfl
theorem sameC_snoc {L l : List Place} {m : Nat} {z : List AV} (hm : m ≤ L.length) (hl : L.take m = l) : sameC (fun i => appF m (fun i => plC (L.getD i default)) (fun i => (fun i => [[AV.int .i64 0, .nils, .nils]].getD i z) (0 + i)) (0 + i)) (l ++ [default]) := by
  have hll : l.length = m := by rw [← hl]; exact take_len' hm
  intro i hi j hj
  rw [List.length_append] at hi
  replace hi : i < l.length + 1 := hi
  dsimp only
  rw [Nat.zero_add, List.getD_eq_getElem?_getD (l := l ++ [default])]
  by_cases e : i < m
  · have e' : Nat.blt i m = true := Nat.ble_eq_true_of_le e
    rw [List.getElem?_append_left (by omega), ← List.getD_eq_getElem?_getD]
    unfold appF
    rw [e', cond_true, ← hl, take_get e]
    exact .inl rfl
  · obtain rfl : i = m := by omega
    have e' : Nat.blt i i = false := by
      cases h : Nat.blt i i with
      | false => rfl
      | true => exact absurd (blt_t h) (Nat.lt_irrefl _)
    subst hll
    rw [List.getElem?_append_right (Nat.le_refl _), Nat.sub_self]
    unfold appF
    rw [e', cond_false, Nat.sub_self]
    rcases (show j = 0 ∨ j = 1 ∨ j = 2 by omega) with rfl | rfl | rfl
    · exact .inl rfl
    · exact .inr ⟨rfl, _, _, rfl⟩
    · exact .inr ⟨rfl, _, _, rfl⟩
def C167 : GC := conG (X := Rd × Int) (fun x => [.ptr 0 0, .int .i64 x.2]) (fun x => [rdO x.1.b x.1.p]) (fun x => x.1.okn 300000000 ∧ i64r x.2) fun x K => ∀ (d : Desk) (p' : Int) (f : Nat → List AV), x.1.p ≤ p' → p' ≤ x.1.p + 5000 → drawnD d → sameC f d.past → K (.agg [.int .i64 d.now.p, slI d.now.bs, slS d.now.rules, .sl 3 d.past.length f]) [rdO x.1.b p']
theorem F167 : GG 41 C167 := by
  refine fitG [(71, C133n)] (by simp only [List.mem_cons, List.not_mem_nil, or_false]; rintro _ rfl <;> first | exact F133n) [(68, C52), (55, C53), (64, C151), (42, C184), (12, C183r)] (by simp only [List.mem_cons, List.not_mem_nil, or_false]; rintro _ (rfl | rfl | rfl | rfl | rfl) <;> first | exact F52 | exact F53 | exact F151 | exact F184 | exact F183r) Tryd.f41 ⟨rfl, by decide +kernel, by decide +kernel⟩ (by intro x K K2 hk h; (try dsimp only at h ⊢); intros; apply hk; first | exact h | (apply h <;> assumption)) ?_
  rintro ⟨⟨b, p⟩, n⟩ K ⟨⟨h1, h2, h3, h4⟩, h5⟩ h
  refine ⟨Nat.le_of_ble_eq_true rfl, ?_⟩
  dsimp only at h h1 h2 h3 h4 h5 ⊢
  repeat' ((conv => whnf); first | refine vA ?_ | with_reducible first | refine v8 ?_ | refine Sp.mk ?_ ?_ | refine vS ?_ | refine vR ?_ | refine vB ?_ | refine br_nt ?_ | refine br_tt ?_ | refine br_ff ?_ | refine vP ?_ | refine vQ ?_ | refine vT ?_ | refine vF ?_ | refine br_and ?_ | refine br_or ?_ | refine br_d (fun _ => ?_) fun _ => ?_ | refine vM (fun _ => ?_) fun _ => ?_)
  refine ⟨_, _, [0], [], rfl, ?_, ?_, (⟨b, p⟩, 0), rfl, rfl, ⟨⟨h1, h2, h3, by dsimp only; omega⟩, by unfold i64r; dsimp only; omega⟩, ?_⟩
  · repeat' ((conv => whnf); first | with_reducible exact True.intro | exact vW | with_reducible refine And.intro ?_ ?_)
  · repeat' ((conv => whnf); first | with_reducible exact True.intro | exact vW | with_reducible refine And.intro ?_ ?_)
  intro y p1 y1 y2 hy
  dsimp only at y1 y2 ⊢
  repeat' ((conv => whnf); first | refine vA ?_ | with_reducible first | refine v8 ?_ | refine Sp.mk ?_ ?_ | refine vS ?_ | refine vR ?_ | refine vB ?_ | refine br_nt ?_ | refine br_tt ?_ | refine br_ff ?_ | refine vP ?_ | refine vQ ?_ | refine vT ?_ | refine vF ?_ | refine br_and ?_ | refine br_or ?_ | refine br_d (fun _ => ?_) fun _ => ?_ | refine vM (fun _ => ?_) fun _ => ?_)
  refine ⟨y, ?_, ⟨hy.I⟩, ?_⟩
  · repeat' ((conv => whnf); first | with_reducible exact True.intro | exact vW | with_reducible refine And.intro ?_ ?_)
  have hg := newDe_good hy
  unfold newDe at hg
  obtain ⟨P, bs, rs⟩ := y
  dsimp only
  apply later
  · intro key
    refine ⟨fun hO => ?_, fun hO => ?_⟩
    · rw [if_pos hO] at hg
      repeat' ((conv => whnf); first | with_reducible refine wk_at 2 ?_ | with_reducible refine wk_at1 2 ?_ | with_reducible refine wk_at2 2 ?_ | refine vA ?_ | with_reducible first | refine v8 ?_ | refine Sp.mk ?_ ?_ | refine vS ?_ | refine vR ?_ | refine vB ?_ | refine br_nt ?_ | refine br_tt ?_ | refine br_ff ?_ | refine vP ?_ | refine vQ ?_ | refine vT ?_ | refine vF ?_ | refine br_and ?_ | refine br_or ?_ | refine br_d (fun _ => ?_) fun _ => ?_ | refine vM (fun _ => ?_) fun _ => ?_)
      obtain ⟨x, hx⟩ : ∃ x : Place, (⟨P,bs,rs⟩:Place) = x := ⟨_, rfl⟩
      refine ⟨Wk.go [(0, .ptr 0 0), (1, .int .i64 n), (4, .ptr 1 0), (5, .ptr 2 0)] [rdO b p1, .box [.int .i64 0, .nils, .nils, .nils], .box [.int .i64 x.p, slI x.bs, slS x.rules, .row 3 3 0 0], psO []] ⟨⟨[some 0, some 1, some 2, none], [], rfl, rfl, ?_, ?_⟩⟩ ?_⟩
      · repeat' ((conv => whnf); first | with_reducible exact True.intro | exact vW | with_reducible refine And.intro ?_ ?_)
      · subst hx
        repeat' ((conv => whnf); first | with_reducible exact True.intro | exact vW | with_reducible refine And.intro ?_ ?_)
      have hgx : goodD ⟨x, []⟩ := hx ▸ hg
      clear hx
      revert x
      exact key.t
    · rw [if_neg hO] at hg
      repeat' ((conv => whnf); first | with_reducible refine wk_at 2 ?_ | with_reducible refine wk_at1 2 ?_ | with_reducible refine wk_at2 2 ?_ | refine vA ?_ | with_reducible first | refine v8 ?_ | refine Sp.mk ?_ ?_ | refine vS ?_ | refine vR ?_ | refine vB ?_ | refine br_nt ?_ | refine br_tt ?_ | refine br_ff ?_ | refine vP ?_ | refine vQ ?_ | refine vT ?_ | refine vF ?_ | refine br_and ?_ | refine br_or ?_ | refine br_d (fun _ => ?_) fun _ => ?_ | refine vM (fun _ => ?_) fun _ => ?_)
      obtain ⟨x, hx⟩ : ∃ x : Place, (default:Place) = x := ⟨_, rfl⟩
      refine ⟨Wk.go [(0, .ptr 0 0), (1, .int .i64 n), (4, .ptr 1 0), (5, .ptr 2 0)] [rdO b p1, .box [.int .i64 0, .nils, .nils, .nils], .box [.int .i64 x.p, slI x.bs, slS x.rules, .row 3 3 0 0], psO []] ⟨⟨[some 0, some 1, some 2, none], [], rfl, rfl, ?_, ?_⟩⟩ ?_⟩
      · repeat' ((conv => whnf); first | with_reducible exact True.intro | exact vW | with_reducible refine And.intro ?_ ?_)
      · subst hx
        repeat' ((conv => whnf); first | with_reducible exact True.intro | exact vW | with_reducible refine And.intro ?_ ?_)
      have hgx : goodD ⟨x, []⟩ := hx ▸ hg
      clear hx
      revert x
      exact key.t
  intro x hg
  clear hy
  repeat' ((conv => whnf); first | refine vA ?_ | with_reducible first | refine v8 ?_ | refine Sp.mk ?_ ?_ | refine vS ?_ | refine vR ?_ | refine vB ?_ | refine br_nt ?_ | refine br_tt ?_ | refine br_ff ?_ | refine vP ?_ | refine vQ ?_ | refine vT ?_ | refine vF ?_ | refine br_and ?_ | refine br_or ?_ | refine br_d (fun _ => ?_) fun _ => ?_ | refine vM (fun _ => ?_) fun _ => ?_)
  refine ⟨_, _, [0], [], rfl, ?_, ?_, (⟨b, p1⟩, 5), rfl, rfl, ⟨⟨h1, h2, ?_, ?_⟩, ?_⟩, ?_⟩
  · repeat' ((conv => whnf); first | with_reducible exact True.intro | exact vW | with_reducible refine And.intro ?_ ?_)
    try exact Chk.mk (by rw [pw_sh (by assumption)])
  · repeat' ((conv => whnf); first | with_reducible exact True.intro | exact vW | with_reducible refine And.intro ?_ ?_)
  · dsimp only; omega
  · dsimp only; omega
  · unfold i64r; dsimp only; omega
  intro k1 p2 a0 a1 a2
  dsimp only at a0 a1 a2
  repeat' ((conv => whnf); first | refine vA ?_ | with_reducible first | refine v8 ?_ | refine Sp.mk ?_ ?_ | refine vS ?_ | refine vR ?_ | refine vB ?_ | refine br_nt ?_ | refine br_tt ?_ | refine br_ff ?_ | refine vP ?_ | refine vQ ?_ | refine vT ?_ | refine vF ?_ | refine br_and ?_ | refine br_or ?_ | refine br_d (fun _ => ?_) fun _ => ?_ | refine vM (fun _ => ?_) fun _ => ?_)
  refine Lp.mk ⟨Dk × Int × Int, fun x => [(0, .ptr 0 0), (1, .int .i64 n), (4, .ptr 1 0), (5, .ptr 2 0), (7, .int .i64 x.2.1)],
    fun x => [rdO b x.2.2, .box [.int .i64 0, .nils, .nils, .nils], .box [.int .i64 x.1.x.p, slI x.1.x.bs, slS x.1.x.rules, .row 3 3 0 x.1.n], psO x.1.L],
    fun x => 0 ≤ x.2.1 ∧ x.2.1 + x.1.n ≤ 5 ∧ p2 ≤ x.2.2 ∧ x.2.2 + 300 * x.2.1 ≤ p2 + 1500 ∧ goodD x.1.d ∧ x.1.n ≤ x.1.L.length, fun x => x.2.1.toNat, ⟨(⟨x, [], 0⟩, k1, p2), ⟨by dsimp only; omega, by dsimp only; omega, by dsimp only; omega, by dsimp only; omega, hg, Nat.zero_le _⟩, ⟨⟨[some 0, some 1, some 2, some 3], [], rfl, rfl, ?_, ?_⟩⟩⟩, ?_⟩
  · repeat' ((conv => whnf); first | with_reducible exact True.intro | exact vW | with_reducible refine And.intro ?_ ?_)
  · repeat' ((conv => whnf); first | with_reducible exact True.intro | exact vW | with_reducible refine And.intro ?_ ?_)
  rintro ⟨⟨⟨P', bs', rs'⟩, L, m⟩, j, q⟩ ⟨i1, i2, i3, i4, hg, hm⟩
  dsimp only at i1 i2 i3 i4 hm ⊢
  obtain ⟨l, hl⟩ : ∃ l, L.take m = l := ⟨_, rfl⟩
  have hll : l.length = m := by rw [← hl]; exact take_len' hm
  have hdk : Dk.d ⟨⟨P', bs', rs'⟩, L, m⟩ = ⟨⟨P', bs', rs'⟩, l⟩ := by rw [← hl]; rfl
  replace hg : goodD ⟨⟨P', bs', rs'⟩, l⟩ := by rw [← hdk]; exact hg
  have hD := hg.1
  have hq := hD.1
  repeat' ((conv => whnf); first | refine vA ?_ | with_reducible first | refine v8 ?_ | refine Sp.mk ?_ ?_ | refine vS ?_ | refine vR ?_ | refine vB ?_ | refine br_nt ?_ | refine br_tt ?_ | refine br_ff ?_ | refine vP ?_ | refine vQ ?_ | refine vT ?_ | refine vF ?_ | refine br_and ?_ | refine br_or ?_ | refine br_d (fun _ => ?_) fun _ => ?_ | refine vM (fun _ => ?_) fun _ => ?_)
  · rename_i hj
    refine Dr.mk ⟨(.rd 0 (.rd 1 (.rd 2 (.rd 3 (.ef 4 (.ef 5 (.rd 6 (.rd 7 (.rd 8 (.ef 9 (.ef 10 (.rd 11 .dn) .no) .no)))) (.ef 9 (.ef 5 (.rd 6 (.rd 7 (.rd 8 (.ef 10 (.rd 11 .dn) .no)))) .no) .no)) (.ef 9 (.ef 4 (.ef 5 (.rd 6 (.rd 7 (.rd 8 (.ef 10 (.rd 11 .dn) .no)))) .no) .no) .no)))))), by decide +kernel, ?_⟩
    repeat' ((conv => whnf); first | refine vA ?_ | with_reducible first | refine v8 ?_ | refine Sp.mk ?_ ?_ | refine vS ?_ | refine vR ?_ | refine vB ?_ | refine br_nt ?_ | refine br_tt ?_ | refine br_ff ?_ | refine vP ?_ | refine vQ ?_ | refine vT ?_ | refine vF ?_ | refine br_and ?_ | refine br_or ?_ | refine br_d (fun _ => ?_) fun _ => ?_ | refine vM (fun _ => ?_) fun _ => ?_)
    all_goals
      refine ⟨_, _, [0], [], rfl, ?_, ?_, ⟨⟨b, q⟩, ⟨P', bs', rs'⟩⟩, rfl, rfl, ⟨⟨h1, h2, by dsimp only; omega, by dsimp only; omega⟩, hq.i, hq.bl, Nat.le_trans hq.rl (by decide)⟩, ?_⟩
      · repeat' ((conv => whnf); first | with_reducible exact True.intro | exact vW | with_reducible refine And.intro ?_ ?_)
      · repeat' ((conv => whnf); first | with_reducible exact True.intro | exact vW | with_reducible refine And.intro ?_ ?_)
      rintro ⟨k, a, b', w⟩ q' q1 q2 ha
      dsimp only [ded, encD] at q1 q2 ⊢
      repeat' ((conv => whnf); first | refine vA ?_ | with_reducible first | refine v8 ?_ | refine Sp.mk ?_ ?_ | refine vS ?_ | refine vR ?_ | refine vB ?_ | refine br_nt ?_ | refine br_tt ?_ | refine br_ff ?_ | refine vP ?_ | refine vQ ?_ | refine vT ?_ | refine vF ?_ | refine br_and ?_ | refine br_or ?_ | refine br_d (fun _ => ?_) fun _ => ?_ | refine vM (fun _ => ?_) fun _ => ?_)
    all_goals
      refine ⟨_, _, [3], [], rfl, ?_, ?_, ⟨⟨⟨P', bs', rs'⟩, L, m⟩, ⟨k, a, b', w⟩⟩, rfl, rfl, ⟨by rw [hdk]; exact hD.I, hm, by dsimp only; omega, ha.I⟩, ?_⟩
      · repeat' ((conv => whnf); first | with_reducible exact True.intro | exact vW | with_reducible refine And.intro ?_ ?_)
      · repeat' ((conv => whnf); first | with_reducible exact True.intro | exact vW | with_reducible refine And.intro ?_ ?_)
      dsimp only
      rw [hdk]
      refine ⟨fun hO => ?_, fun hO y L' n' hn' he => ?_⟩
      · repeat' ((conv => whnf); first | refine vA ?_ | with_reducible first | refine v8 ?_ | refine Sp.mk ?_ ?_ | refine vS ?_ | refine vR ?_ | refine vB ?_ | refine br_nt ?_ | refine br_tt ?_ | refine br_ff ?_ | refine vP ?_ | refine vQ ?_ | refine vT ?_ | refine vF ?_ | refine br_and ?_ | refine br_or ?_ | refine br_d (fun _ => ?_) fun _ => ?_ | refine vM (fun _ => ?_) fun _ => ?_)
        refine ⟨(⟨⟨P', bs', rs'⟩, L, m⟩, j - 1, q'), ⟨by dsimp only; omega, by dsimp only; omega, by dsimp only; omega, by dsimp only; omega, by rw [hdk]; exact hg, hm⟩, by dsimp only; omega, ?_⟩
        first | (refine ⟨⟨[some 0, some 1, some 2, some 3], [], rfl, rfl, ?_, ?_⟩⟩ <;> (repeat' ((conv => whnf); first | with_reducible exact True.intro | exact vW | with_reducible refine And.intro ?_ ?_)) <;> fail)
      · have hA : canD ⟨⟨P', bs', rs'⟩, l⟩ ⟨k, a, b', w⟩ = true → goodD (Dk.d ⟨y, L', n'⟩) := fun hc => by
          obtain ⟨e, e1, e2, e3⟩ := canD_t hc
          have := doD_good hD e1 ha e2
          rw [← e3, he] at this
          exact this
        have hn2 : n' ≤ m + 1 := by
          have h1 := afterD_len ⟨⟨P', bs', rs'⟩, l⟩ ⟨k, a, b', w⟩
          rw [he] at h1
          have h2 := take_len' hn'
          dsimp only at h1
          omega
        generalize canD ⟨⟨P', bs', rs'⟩, l⟩ ⟨k, a, b', w⟩ = c at hA ⊢
        obtain ⟨yp, yb, yr⟩ := y
        dsimp only [dkV]
        cases c
        · repeat' ((conv => whnf); first | refine vA ?_ | with_reducible first | refine v8 ?_ | refine Sp.mk ?_ ?_ | refine vS ?_ | refine vR ?_ | refine vB ?_ | refine br_nt ?_ | refine br_tt ?_ | refine br_ff ?_ | refine vP ?_ | refine vQ ?_ | refine vT ?_ | refine vF ?_ | refine br_and ?_ | refine br_or ?_ | refine br_d (fun _ => ?_) fun _ => ?_ | refine vM (fun _ => ?_) fun _ => ?_)
          refine ⟨(⟨⟨P', bs', rs'⟩, L, m⟩, j - 1, q'), ⟨by dsimp only; omega, by dsimp only; omega, by dsimp only; omega, by dsimp only; omega, by rw [hdk]; exact hg, hm⟩, by dsimp only; omega, ?_⟩
          first | (refine ⟨⟨[some 0, some 1, some 2, some 3], [], rfl, rfl, ?_, ?_⟩⟩ <;> (repeat' ((conv => whnf); first | with_reducible exact True.intro | exact vW | with_reducible refine And.intro ?_ ?_)) <;> fail)
        · have hg' := hA rfl
          repeat' ((conv => whnf); first | refine vA ?_ | with_reducible first | refine v8 ?_ | refine Sp.mk ?_ ?_ | refine vS ?_ | refine vR ?_ | refine vB ?_ | refine br_nt ?_ | refine br_tt ?_ | refine br_ff ?_ | refine vP ?_ | refine vQ ?_ | refine vT ?_ | refine vF ?_ | refine br_and ?_ | refine br_or ?_ | refine br_d (fun _ => ?_) fun _ => ?_ | refine vM (fun _ => ?_) fun _ => ?_)
          refine ⟨(⟨⟨yp, yb, yr⟩, L', n'⟩, j - 1, q'), ⟨by dsimp only; omega, by dsimp only; omega, by dsimp only; omega, by dsimp only; omega, hg', hn'⟩, by dsimp only; omega, ?_⟩
          first | (refine ⟨⟨[some 0, some 1, some 2, some 4], [], rfl, rfl, ?_, ?_⟩⟩ <;> (repeat' ((conv => whnf); first | with_reducible exact True.intro | exact vW | with_reducible refine And.intro ?_ ?_)) <;> fail) | (refine ⟨⟨[some 0, some 1, some 2, some 5], [], rfl, rfl, ?_, ?_⟩⟩ <;> (repeat' ((conv => whnf); first | with_reducible exact True.intro | exact vW | with_reducible refine And.intro ?_ ?_)) <;> fail)
  · repeat' ((conv => whnf); first | refine vA ?_ | with_reducible first | refine v8 ?_ | refine Sp.mk ?_ ?_ | refine vS ?_ | refine vR ?_ | refine vB ?_ | refine br_nt ?_ | refine br_tt ?_ | refine br_ff ?_ | refine vP ?_ | refine vQ ?_ | refine vT ?_ | refine vF ?_ | refine br_and ?_ | refine br_or ?_ | refine br_d (fun _ => ?_) fun _ => ?_ | refine vM (fun _ => ?_) fun _ => ?_)
    refine ⟨_, _, [0], [], rfl, ?_, ?_, (⟨b, q⟩, n), rfl, rfl, ⟨⟨h1, h2, by dsimp only; omega, by dsimp only; omega⟩, h5⟩, ?_⟩
    · repeat' ((conv => whnf); first | with_reducible exact True.intro | exact vW | with_reducible refine And.intro ?_ ?_)
    · repeat' ((conv => whnf); first | with_reducible exact True.intro | exact vW | with_reducible refine And.intro ?_ ?_)
    intro v p' v1 v2
    dsimp only at v1 v2 ⊢
    have hsl : l.length = m ∧ 0 + m ≤ L.length ∧ ∀ i, i < l.length → plC (l.getD i default) = plC (L.getD (0 + i) default) := ⟨hll, by omega, fun i hi => by rw [Nat.zero_add, ← hl, take_get (by omega)]⟩
    repeat' ((conv => whnf); first | refine vA ?_ | with_reducible first | refine v8 ?_ | refine Sp.mk ?_ ?_ | refine vS ?_ | refine vR ?_ | refine vB ?_ | refine br_nt ?_ | refine br_tt ?_ | refine br_ff ?_ | refine vP ?_ | refine vQ ?_ | refine vT ?_ | refine vF ?_ | refine br_and ?_ | refine br_or ?_ | refine br_d (fun _ => ?_) fun _ => ?_ | refine vM (fun _ => ?_) fun _ => ?_)
    · refine ⟨_, _, [0], [], rfl, ?_, ?_, (⟨b, p'⟩, 3), rfl, rfl, ⟨⟨h1, h2, ?_, ?_⟩, ?_⟩, ?_⟩
      · repeat' ((conv => whnf); first | with_reducible exact True.intro | exact vW | with_reducible refine And.intro ?_ ?_)
        try exact Chk.mk (by rw [pw_sh (by assumption)])
      · repeat' ((conv => whnf); first | with_reducible exact True.intro | exact vW | with_reducible refine And.intro ?_ ?_)
      · dsimp only; omega
      · dsimp only; omega
      · unfold i64r; dsimp only; omega
      intro k5 p5 e0 e1 e2
      dsimp only at e0 e1 e2
      repeat' ((conv => whnf); first | refine vA ?_ | with_reducible first | refine v8 ?_ | refine Sp.mk ?_ ?_ | refine vS ?_ | refine vR ?_ | refine vB ?_ | refine br_nt ?_ | refine br_tt ?_ | refine br_ff ?_ | refine vP ?_ | refine vQ ?_ | refine vT ?_ | refine vF ?_ | refine br_and ?_ | refine br_or ?_ | refine br_d (fun _ => ?_) fun _ => ?_ | refine vM (fun _ => ?_) fun _ => ?_)
      · refine ⟨_, _, [some 0], [3], rfl, rfl, ?_, ?_, h ⟨⟨P', bs', []⟩, l⟩ p5 _ (by omega) (by omega) ⟨⟨⟨hq.i.1, (by decide : 0 < 9223372036854775808), fun _ hb => by cases hb⟩, hq.bl, (by decide : 0 ≤ 4), fun _ hb => by cases hb⟩, hD.2⟩ (sameC_rfl _)⟩
        · repeat' ((conv => whnf); first | with_reducible exact True.intro | exact vW | with_reducible refine And.intro ?_ ?_)
          all_goals exact Chk.mk hsl
        · repeat' ((conv => whnf); first | with_reducible exact True.intro | exact vW | with_reducible refine And.intro ?_ ?_)
      · obtain ⟨lp, l9, lq⟩ := hD
        dsimp only at lp l9 lq
        have hx : (l ++ [(default : Place)]).length = m + 1 := by rw [List.length_append, hll]; rfl
        refine ⟨_, _, [some 0], [5], rfl, rfl, ?_, ?_, h ⟨⟨P', bs', rs'⟩, l ++ [default]⟩ p5 _ (by omega) (by omega) ⟨lp, by dsimp only; rw [List.length_append]; show l.length + 1 ≤ 9; omega, fun z hz => (List.mem_append.1 hz).elim (fun k => lq z k) fun k => by rw [List.mem_singleton.1 k]; exact drawnQ0⟩ (sameC_snoc hm hl (z := (lookT TT 28).z))⟩
        · repeat' ((conv => whnf); first | with_reducible exact True.intro | exact vW | with_reducible refine And.intro ?_ ?_)
          all_goals exact Chk.mk ⟨hx, by omega, fun i hi => rfl⟩
        · repeat' ((conv => whnf); first | with_reducible exact True.intro | exact vW | with_reducible refine And.intro ?_ ?_)
      · refine ⟨_, _, [some 0], [], rfl, rfl, ?_, ?_, h default p5 _ (by omega) (by omega) drawnD0 (sameC_rfl _)⟩
        · repeat' ((conv => whnf); first | with_reducible exact True.intro | exact vW | with_reducible refine And.intro ?_ ?_)
        · repeat' ((conv => whnf); first | with_reducible exact True.intro | exact vW | with_reducible refine And.intro ?_ ?_)
    · refine ⟨_, _, [some 0], [3], rfl, rfl, ?_, ?_, h ⟨⟨P', bs', rs'⟩, l⟩ p' _ (by omega) (by omega) hD (sameC_rfl _)⟩
      · repeat' ((conv => whnf); first | with_reducible exact True.intro | exact vW | with_reducible refine And.intro ?_ ?_)
        all_goals exact Chk.mk hsl
      · repeat' ((conv => whnf); first | with_reducible exact True.intro | exact vW | with_reducible refine And.intro ?_ ?_)
end Go.Proofs.YtjefkdhecccfpaaDoor.Vc
end
section
/- Part TR: the law of desks. -/
namespace Go.Proofs.YtjefkdhecccfpaaDoor.Vc
open Go.Proofs
set_option maxRecDepth 10000
set_option maxHeartbeats 4000000
theorem desk_sem (d : Desk) {f : Nat → List AV} (h : sameC f d.past) : semE (.agg [.int .i64 d.now.p, slI d.now.bs, slS d.now.rules, .sl 3 d.past.length f]) (enDe d) := by
  refine agg_sem rfl fun j hj => ?_
  replace hj : j < 4 := hj
  rcases (show j = 0 ∨ j = 1 ∨ j = 2 ∨ j = 3 by omega) with rfl | rfl | rfl | rfl
  · exact semE_rfl _
  · exact semE_rfl _
  · exact semE_rfl _
  · exact sl_sem (fun i _ => rfl) h
end Go.Proofs.YtjefkdhecccfpaaDoor.Vc
end
section
/- Part XL: deeds at desks, one and many, by both sides; drawn ones. -/
namespace Go.Proofs.YtjefkdhecccfpaaDoor.Vc
open Go.Proofs
set_option maxRecDepth 10000
set_option maxHeartbeats 4000000
theorem deskOk_I {d : Desk} (h : deskOk d) : deskI d := ⟨I_of h.1, by have := h.2.1; omega, fun p hp => I_of (h.2.2 p hp)⟩
def C239 := C183
theorem F239 : FF 11 C239 := by
  refine fitXE [(43, C159), (44, C254)] (by simp only [List.mem_cons, List.not_mem_nil, or_false]; rintro _ (rfl | rfl) <;> first | exact F159 | exact F254) [] (by simp) Tryd.f11 ⟨rfl, by decide +kernel, by decide +kernel⟩ (by intro x K K2 hk h; (try dsimp only at h ⊢); intros; apply hk; first | exact h | (apply h <;> assumption)) ?_
  rintro ⟨⟨⟨p, bs, rs⟩, l⟩, ⟨k, a, b, w⟩⟩ K ⟨hI, ha⟩ h
  refine ⟨Nat.le_of_ble_eq_true rfl, ?_⟩
  replace h : K (.tup [enDe (afterD ⟨⟨p, bs, rs⟩, l⟩ ⟨k, a, b, w⟩), .bool (canD ⟨⟨p, bs, rs⟩, l⟩ ⟨k, a, b, w⟩)]) := h
  unfold afterD canD at h
  dsimp only [enDe, deC, ded, encD] at hI ha ⊢
  repeat' ((conv => whnf); first | refine vA ?_ | with_reducible first | refine v8 ?_ | refine Sp.mk ?_ ?_ | refine vS ?_ | refine vR ?_ | refine vB ?_ | refine br_nt ?_ | refine br_tt ?_ | refine br_ff ?_ | refine vP ?_ | refine vQ ?_ | refine vT ?_ | refine vF ?_ | refine br_and ?_ | refine br_or ?_ | refine br_d (fun _ => ?_) fun _ => ?_ | refine vM (fun _ => ?_) fun _ => ?_)
  refine ⟨⟨⟨p, bs, rs⟩, l⟩, ?_, ⟨hI⟩, ?_⟩
  · repeat' ((conv => whnf); first | with_reducible exact True.intro | exact vW | with_reducible refine And.intro ?_ ?_)
  by_cases hO : deskOk ⟨⟨p, bs, rs⟩, l⟩
  · rw [if_pos hO, decide_eq_true hO, Bool.true_and] at h
    repeat' ((conv => whnf); first | refine vA ?_ | with_reducible first | refine v8 ?_ | refine Sp.mk ?_ ?_ | refine vS ?_ | refine vR ?_ | refine vB ?_ | refine br_nt ?_ | refine br_tt ?_ | refine br_ff ?_ | refine vP ?_ | refine vQ ?_ | refine vT ?_ | refine vF ?_ | refine br_and ?_ | refine br_or ?_ | refine br_d (fun _ => ?_) fun _ => ?_ | refine vM (fun _ => ?_) fun _ => ?_)
    refine ⟨⟨⟨⟨p, bs, rs⟩, l⟩, ⟨k, a, b, w⟩⟩, ?_, ⟨hI, hO, ha⟩, ?_⟩
    · repeat' ((conv => whnf); first | with_reducible exact True.intro | exact vW | with_reducible refine And.intro ?_ ?_)
    dsimp only
    generalize (doD ⟨⟨p, bs, rs⟩, l⟩ ⟨k, a, b, w⟩).isSome = ok at h ⊢
    generalize (doD ⟨⟨p, bs, rs⟩, l⟩ ⟨k, a, b, w⟩).getD ⟨⟨p, bs, rs⟩, l⟩ = e at h ⊢
    obtain ⟨⟨ep, eb, er⟩, el⟩ := e
    dsimp only [enDe, deC]
    repeat' ((conv => whnf); first | refine vA ?_ | with_reducible first | refine v8 ?_ | refine Sp.mk ?_ ?_ | refine vS ?_ | refine vR ?_ | refine vB ?_ | refine br_nt ?_ | refine br_tt ?_ | refine br_ff ?_ | refine vP ?_ | refine vQ ?_ | refine vT ?_ | refine vF ?_ | refine br_and ?_ | refine br_or ?_ | refine br_d (fun _ => ?_) fun _ => ?_ | refine vM (fun _ => ?_) fun _ => ?_)
    refine ⟨_, ?_, h⟩
    repeat' ((conv => whnf); first | with_reducible exact True.intro | exact vW | with_reducible refine And.intro ?_ ?_)
  · rw [if_neg hO, decide_eq_false hO, Bool.false_and] at h
    repeat' ((conv => whnf); first | refine vA ?_ | with_reducible first | refine v8 ?_ | refine Sp.mk ?_ ?_ | refine vS ?_ | refine vR ?_ | refine vB ?_ | refine br_nt ?_ | refine br_tt ?_ | refine br_ff ?_ | refine vP ?_ | refine vQ ?_ | refine vT ?_ | refine vF ?_ | refine br_and ?_ | refine br_or ?_ | refine br_d (fun _ => ?_) fun _ => ?_ | refine vM (fun _ => ?_) fun _ => ?_)
    refine ⟨_, ?_, h⟩
    repeat' ((conv => whnf); first | with_reducible exact True.intro | exact vW | with_reducible refine And.intro ?_ ?_)
end Go.Proofs.YtjefkdhecccfpaaDoor.Vc
end
section
/- Part XM: comparisons of whatever desks; desks and deeds that are drawn. -/
namespace Go.Proofs.YtjefkdhecccfpaaDoor.Vc
open Go.Proofs
set_option maxRecDepth 10000
set_option maxHeartbeats 4000000
def anyB (K : AV → Prop) : Prop := ∀ b : Bool, K (.bool b)
def C160a : List AV → (AV → Prop) → Prop := con (X := List Int × List Int) (fun x => [slI x.1, slI x.2]) (fun x => x.1.length < 9223372036854775808 ∧ x.2.length < 9223372036854775808) fun _ K => anyB K
theorem F160a : FF 85 C160a := by
  refine fitX [] (by simp) [] (by simp) Tryd.f85 ⟨rfl, by decide +kernel, by decide +kernel⟩ (fun _ _ _ hk h b => hk _ (h b)) ?_
  rintro ⟨l, m⟩ K ⟨h1, h2⟩ h
  refine ⟨Nat.le_of_ble_eq_true rfl, ?_⟩
  dsimp only at h1 h2 ⊢
  by_cases hlen : l.length = m.length
  · repeat' ((conv => whnf); first | refine vA ?_ | with_reducible first | refine v8 ?_ | refine Sp.mk ?_ ?_ | refine vS ?_ | refine vR ?_ | refine vB ?_ | refine br_nt ?_ | refine br_tt ?_ | refine br_ff ?_ | refine vP ?_ | refine vQ ?_ | refine vT ?_ | refine vF ?_ | refine br_and ?_ | refine br_or ?_ | refine br_d (fun _ => ?_) fun _ => ?_ | refine vM (fun _ => ?_) fun _ => ?_)
    refine Lp.mk ⟨Nat, fun i => [(0, slI l), (1, slI m), (5, .int .i64 i)], fun _ => [], fun i => i ≤ l.length, fun i => l.length - i, ⟨0, Nat.zero_le _, ⟨⟨[], [], rfl, rfl, ?_, ?_⟩⟩⟩, ?_⟩
    · repeat' ((conv => whnf); first | with_reducible exact True.intro | exact vW | with_reducible refine And.intro ?_ ?_)
    · repeat' ((conv => whnf); first | with_reducible exact True.intro | exact vW | with_reducible refine And.intro ?_ ?_)
    intro i i1
    dsimp only
    repeat' ((conv => whnf); first | refine vA ?_ | with_reducible first | refine v8 ?_ | refine Sp.mk ?_ ?_ | refine vS ?_ | refine vR ?_ | refine vB ?_ | refine br_nt ?_ | refine br_tt ?_ | refine br_ff ?_ | refine vP ?_ | refine vQ ?_ | refine vT ?_ | refine vF ?_ | refine br_and ?_ | refine br_or ?_ | refine br_d (fun _ => ?_) fun _ => ?_ | refine vM (fun _ => ?_) fun _ => ?_)
    · refine Dr.mk ⟨(.rd 0 (.rd 1 (.rd 2 (.rd 3 (.rd 4 (.rd 5 (.rd 6 (.rd 7 (.rd 8 .dn))))))))), by decide +kernel, ?_⟩
      repeat' ((conv => whnf); first | refine vA ?_ | with_reducible first | refine v8 ?_ | refine Sp.mk ?_ ?_ | refine vS ?_ | refine vR ?_ | refine vB ?_ | refine br_nt ?_ | refine br_tt ?_ | refine br_ff ?_ | refine vP ?_ | refine vQ ?_ | refine vT ?_ | refine vF ?_ | refine br_and ?_ | refine br_or ?_ | refine br_d (fun _ => ?_) fun _ => ?_ | refine vM (fun _ => ?_) fun _ => ?_)
      · refine ⟨i + 1, by omega, by omega, ⟨⟨[], [], rfl, rfl, ?_, ?_⟩⟩⟩
        · repeat' ((conv => whnf); first | with_reducible exact True.intro | exact vW | with_reducible refine And.intro ?_ ?_)
        · repeat' ((conv => whnf); first | with_reducible exact True.intro | exact vW | with_reducible refine And.intro ?_ ?_)
      · exact h _
    · exact h _
  · repeat' ((conv => whnf); first | refine vA ?_ | with_reducible first | refine v8 ?_ | refine Sp.mk ?_ ?_ | refine vS ?_ | refine vR ?_ | refine vB ?_ | refine br_nt ?_ | refine br_tt ?_ | refine br_ff ?_ | refine vP ?_ | refine vQ ?_ | refine vT ?_ | refine vF ?_ | refine br_and ?_ | refine br_or ?_ | refine br_d (fun _ => ?_) fun _ => ?_ | refine vM (fun _ => ?_) fun _ => ?_)
    exact h _
def C161a : List AV → (AV → Prop) → Prop := con (X := List ByteArray × List ByteArray) (fun x => [slS x.1, slS x.2]) (fun x => x.1.length < 9223372036854775808 ∧ x.2.length < 9223372036854775808) fun _ K => anyB K
theorem F161a : FF 18 C161a := by
  refine fitX [] (by simp) [] (by simp) Tryd.f18 ⟨rfl, by decide +kernel, by decide +kernel⟩ (fun _ _ _ hk h b => hk _ (h b)) ?_
  rintro ⟨l, m⟩ K ⟨h1, h2⟩ h
  refine ⟨Nat.le_of_ble_eq_true rfl, ?_⟩
  dsimp only at h1 h2 ⊢
  by_cases hlen : l.length = m.length
  · repeat' ((conv => whnf); first | refine vA ?_ | with_reducible first | refine v8 ?_ | refine Sp.mk ?_ ?_ | refine vS ?_ | refine vR ?_ | refine vB ?_ | refine br_nt ?_ | refine br_tt ?_ | refine br_ff ?_ | refine vP ?_ | refine vQ ?_ | refine vT ?_ | refine vF ?_ | refine br_and ?_ | refine br_or ?_ | refine br_d (fun _ => ?_) fun _ => ?_ | refine vM (fun _ => ?_) fun _ => ?_)
    refine Lp.mk ⟨Nat, fun i => [(0, slS l), (1, slS m), (5, .int .i64 i)], fun _ => [], fun i => i ≤ l.length, fun i => l.length - i, ⟨0, Nat.zero_le _, ⟨⟨[], [], rfl, rfl, ?_, ?_⟩⟩⟩, ?_⟩
    · repeat' ((conv => whnf); first | with_reducible exact True.intro | exact vW | with_reducible refine And.intro ?_ ?_)
    · repeat' ((conv => whnf); first | with_reducible exact True.intro | exact vW | with_reducible refine And.intro ?_ ?_)
    intro i i1
    dsimp only
    repeat' ((conv => whnf); first | refine vA ?_ | with_reducible first | refine v8 ?_ | refine Sp.mk ?_ ?_ | refine vS ?_ | refine vR ?_ | refine vB ?_ | refine br_nt ?_ | refine br_tt ?_ | refine br_ff ?_ | refine vP ?_ | refine vQ ?_ | refine vT ?_ | refine vF ?_ | refine br_and ?_ | refine br_or ?_ | refine br_d (fun _ => ?_) fun _ => ?_ | refine vM (fun _ => ?_) fun _ => ?_)
    · refine Dr.mk ⟨(.rd 0 (.rd 1 (.rd 2 (.rd 3 (.rd 4 (.rd 5 (.rd 6 (.rd 7 (.rd 8 .dn))))))))), by decide +kernel, ?_⟩
      repeat' ((conv => whnf); first | refine vA ?_ | with_reducible first | refine v8 ?_ | refine Sp.mk ?_ ?_ | refine vS ?_ | refine vR ?_ | refine vB ?_ | refine br_nt ?_ | refine br_tt ?_ | refine br_ff ?_ | refine vP ?_ | refine vQ ?_ | refine vT ?_ | refine vF ?_ | refine br_and ?_ | refine br_or ?_ | refine br_d (fun _ => ?_) fun _ => ?_ | refine vM (fun _ => ?_) fun _ => ?_)
      · refine ⟨i + 1, by omega, by omega, ⟨⟨[], [], rfl, rfl, ?_, ?_⟩⟩⟩
        · repeat' ((conv => whnf); first | with_reducible exact True.intro | exact vW | with_reducible refine And.intro ?_ ?_)
        · repeat' ((conv => whnf); first | with_reducible exact True.intro | exact vW | with_reducible refine And.intro ?_ ?_)
      · exact h _
    · exact h _
  · repeat' ((conv => whnf); first | refine vA ?_ | with_reducible first | refine v8 ?_ | refine Sp.mk ?_ ?_ | refine vS ?_ | refine vR ?_ | refine vB ?_ | refine br_nt ?_ | refine br_tt ?_ | refine br_ff ?_ | refine vP ?_ | refine vQ ?_ | refine vT ?_ | refine vF ?_ | refine br_and ?_ | refine br_or ?_ | refine br_d (fun _ => ?_) fun _ => ?_ | refine vM (fun _ => ?_) fun _ => ?_)
    exact h _
def C137a : List AV → (AV → Prop) → Prop := con (X := Pp) (fun x => [enPl x.x, enPl x.y]) (fun x => lenI x.x ∧ lenI x.y) fun _ K => anyB K
theorem F137a : FF 49 C137a := by
  refine fitX [(85, C160a), (18, C161a)] (by simp only [List.mem_cons, List.not_mem_nil, or_false]; rintro _ (rfl | rfl) <;> first | exact F160a | exact F161a) [] (by simp) Tryd.f49 ⟨rfl, by decide +kernel, by decide +kernel⟩ (fun _ _ _ hk h b => hk _ (h b)) ?_
  rintro ⟨⟨p, bs, rs⟩, ⟨q, cs, ss⟩⟩ K ⟨⟨h1, h2⟩, h3, h4⟩ h
  refine ⟨Nat.le_of_ble_eq_true rfl, ?_⟩
  dsimp only [enPl, plC] at h1 h2 h3 h4 ⊢
  repeat' ((conv => whnf); first | refine vA ?_ | with_reducible first | refine v8 ?_ | refine Sp.mk ?_ ?_ | refine vS ?_ | refine vR ?_ | refine vB ?_ | refine br_nt ?_ | refine br_tt ?_ | refine br_ff ?_ | refine vP ?_ | refine vQ ?_ | refine vT ?_ | refine vF ?_ | refine br_and ?_ | refine br_or ?_ | refine br_d (fun _ => ?_) fun _ => ?_ | refine vM (fun _ => ?_) fun _ => ?_)
  · refine ⟨(bs, cs), ?_, ⟨by dsimp only; omega, by dsimp only; omega⟩, ?_⟩
    · repeat' ((conv => whnf); first | with_reducible exact True.intro | exact vW | with_reducible refine And.intro ?_ ?_)
    intro b
    cases b
    · repeat' ((conv => whnf); first | refine vA ?_ | with_reducible first | refine v8 ?_ | refine Sp.mk ?_ ?_ | refine vS ?_ | refine vR ?_ | refine vB ?_ | refine br_nt ?_ | refine br_tt ?_ | refine br_ff ?_ | refine vP ?_ | refine vQ ?_ | refine vT ?_ | refine vF ?_ | refine br_and ?_ | refine br_or ?_ | refine br_d (fun _ => ?_) fun _ => ?_ | refine vM (fun _ => ?_) fun _ => ?_)
      exact h _
    · repeat' ((conv => whnf); first | refine vA ?_ | with_reducible first | refine v8 ?_ | refine Sp.mk ?_ ?_ | refine vS ?_ | refine vR ?_ | refine vB ?_ | refine br_nt ?_ | refine br_tt ?_ | refine br_ff ?_ | refine vP ?_ | refine vQ ?_ | refine vT ?_ | refine vF ?_ | refine br_and ?_ | refine br_or ?_ | refine br_d (fun _ => ?_) fun _ => ?_ | refine vM (fun _ => ?_) fun _ => ?_)
      refine ⟨(rs, ss), ?_, ⟨h2, h4⟩, ?_⟩
      · repeat' ((conv => whnf); first | with_reducible exact True.intro | exact vW | with_reducible refine And.intro ?_ ?_)
      intro b
      repeat' ((conv => whnf); first | refine vA ?_ | with_reducible first | refine v8 ?_ | refine Sp.mk ?_ ?_ | refine vS ?_ | refine vR ?_ | refine vB ?_ | refine br_nt ?_ | refine br_tt ?_ | refine br_ff ?_ | refine vP ?_ | refine vQ ?_ | refine vT ?_ | refine vF ?_ | refine br_and ?_ | refine br_or ?_ | refine br_d (fun _ => ?_) fun _ => ?_ | refine vM (fun _ => ?_) fun _ => ?_)
      exact h _
  · exact h _
def C134a : List AV → (AV → Prop) → Prop := con (X := Desk × Desk) (fun x => [enDe x.1, enDe x.2]) (fun x => lenD x.1 ∧ lenD x.2) fun _ K => anyB K
theorem F134a : FF 13 C134a := by
  refine fitX [(49, C137a)] (by simp only [List.mem_cons, List.not_mem_nil, or_false]; rintro _ rfl <;> first | exact F137a) [] (by simp) Tryd.f13 ⟨rfl, by decide +kernel, by decide +kernel⟩ (fun _ _ _ hk h b => hk _ (h b)) ?_
  rintro ⟨⟨⟨p, bs, rs⟩, l⟩, ⟨⟨q, cs, ss⟩, m⟩⟩ K ⟨⟨h1, h2⟩, h3, h4⟩ h
  refine ⟨Nat.le_of_ble_eq_true rfl, ?_⟩
  have l1 := h2.1
  have l2 := h2.2
  have m1 := h4.1
  have m2 := h4.2
  dsimp only [enDe, deC] at h1 h3 l1 m1 l2 m2 ⊢
  repeat' ((conv => whnf); first | refine vA ?_ | with_reducible first | refine v8 ?_ | refine Sp.mk ?_ ?_ | refine vS ?_ | refine vR ?_ | refine vB ?_ | refine br_nt ?_ | refine br_tt ?_ | refine br_ff ?_ | refine vP ?_ | refine vQ ?_ | refine vT ?_ | refine vF ?_ | refine br_and ?_ | refine br_or ?_ | refine br_d (fun _ => ?_) fun _ => ?_ | refine vM (fun _ => ?_) fun _ => ?_)
  refine ⟨⟨⟨p, bs, rs⟩, ⟨q, cs, ss⟩⟩, ?_, ⟨h1, h3⟩, ?_⟩
  · repeat' ((conv => whnf); first | with_reducible exact True.intro | exact vW | with_reducible refine And.intro ?_ ?_)
  intro b
  cases b
  · repeat' ((conv => whnf); first | refine vA ?_ | with_reducible first | refine v8 ?_ | refine Sp.mk ?_ ?_ | refine vS ?_ | refine vR ?_ | refine vB ?_ | refine br_nt ?_ | refine br_tt ?_ | refine br_ff ?_ | refine vP ?_ | refine vQ ?_ | refine vT ?_ | refine vF ?_ | refine br_and ?_ | refine br_or ?_ | refine br_d (fun _ => ?_) fun _ => ?_ | refine vM (fun _ => ?_) fun _ => ?_)
    exact h _
  by_cases hlen : l.length = m.length
  · repeat' ((conv => whnf); first | refine vA ?_ | with_reducible first | refine v8 ?_ | refine Sp.mk ?_ ?_ | refine vS ?_ | refine vR ?_ | refine vB ?_ | refine br_nt ?_ | refine br_tt ?_ | refine br_ff ?_ | refine vP ?_ | refine vQ ?_ | refine vT ?_ | refine vF ?_ | refine br_and ?_ | refine br_or ?_ | refine br_d (fun _ => ?_) fun _ => ?_ | refine vM (fun _ => ?_) fun _ => ?_)
    refine Lp.mk ⟨Nat, fun i => [(2, .ptr 0 0), (3, .ptr 1 0), (5, .int .i64 i)], fun _ => [.box (deC ⟨⟨p, bs, rs⟩, l⟩), .box (deC ⟨⟨q, cs, ss⟩, m⟩)], fun i => i ≤ l.length, fun i => l.length - i, ⟨0, Nat.zero_le _, ⟨⟨[some 0, some 1], [], rfl, rfl, ?_, ?_⟩⟩⟩, ?_⟩
    · repeat' ((conv => whnf); first | with_reducible exact True.intro | exact vW | with_reducible refine And.intro ?_ ?_)
    · repeat' ((conv => whnf); first | with_reducible exact True.intro | exact vW | with_reducible refine And.intro ?_ ?_)
    intro i i1
    dsimp only [deC]
    repeat' ((conv => whnf); first | refine vA ?_ | with_reducible first | refine v8 ?_ | refine Sp.mk ?_ ?_ | refine vS ?_ | refine vR ?_ | refine vB ?_ | refine br_nt ?_ | refine br_tt ?_ | refine br_ff ?_ | refine vP ?_ | refine vQ ?_ | refine vT ?_ | refine vF ?_ | refine br_and ?_ | refine br_or ?_ | refine br_d (fun _ => ?_) fun _ => ?_ | refine vM (fun _ => ?_) fun _ => ?_)
    · rename_i hi
      have hi : i < l.length := by omega
      have him : i < m.length := by omega
      refine Dr.mk ⟨(.rd 0 (.rd 1 (.rd 2 (.rd 3 (.rd 4 (.rd 5 (.rd 6 (.rd 7 (.rd 8 (.rd 9 (.ef 10 (.rd 11 .dn) .no))))))))))), by decide +kernel, ?_⟩
      repeat' ((conv => whnf); first | refine vA ?_ | with_reducible first | refine v8 ?_ | refine Sp.mk ?_ ?_ | refine vS ?_ | refine vR ?_ | refine vB ?_ | refine br_nt ?_ | refine br_tt ?_ | refine br_ff ?_ | refine vP ?_ | refine vQ ?_ | refine vT ?_ | refine vF ?_ | refine br_and ?_ | refine br_or ?_ | refine br_d (fun _ => ?_) fun _ => ?_ | refine vM (fun _ => ?_) fun _ => ?_)
      refine ⟨⟨l.getD i default, m.getD i default⟩, ?_, ⟨l2 _ (getD_mem' hi), m2 _ (getD_mem' him)⟩, ?_⟩
      · repeat' ((conv => whnf); first | with_reducible exact True.intro | exact vW | with_reducible refine And.intro ?_ ?_)
      intro b
      cases b
      · repeat' ((conv => whnf); first | refine vA ?_ | with_reducible first | refine v8 ?_ | refine Sp.mk ?_ ?_ | refine vS ?_ | refine vR ?_ | refine vB ?_ | refine br_nt ?_ | refine br_tt ?_ | refine br_ff ?_ | refine vP ?_ | refine vQ ?_ | refine vT ?_ | refine vF ?_ | refine br_and ?_ | refine br_or ?_ | refine br_d (fun _ => ?_) fun _ => ?_ | refine vM (fun _ => ?_) fun _ => ?_)
        exact h _
      · repeat' ((conv => whnf); first | refine vA ?_ | with_reducible first | refine v8 ?_ | refine Sp.mk ?_ ?_ | refine vS ?_ | refine vR ?_ | refine vB ?_ | refine br_nt ?_ | refine br_tt ?_ | refine br_ff ?_ | refine vP ?_ | refine vQ ?_ | refine vT ?_ | refine vF ?_ | refine br_and ?_ | refine br_or ?_ | refine br_d (fun _ => ?_) fun _ => ?_ | refine vM (fun _ => ?_) fun _ => ?_)
        refine ⟨i + 1, by omega, by omega, ⟨⟨[some 0, some 1], [], rfl, rfl, ?_, ?_⟩⟩⟩
        · repeat' ((conv => whnf); first | with_reducible exact True.intro | exact vW | with_reducible refine And.intro ?_ ?_)
        · repeat' ((conv => whnf); first | with_reducible exact True.intro | exact vW | with_reducible refine And.intro ?_ ?_)
    · exact h _
  · repeat' ((conv => whnf); first | refine vA ?_ | with_reducible first | refine v8 ?_ | refine Sp.mk ?_ ?_ | refine vS ?_ | refine vR ?_ | refine vB ?_ | refine br_nt ?_ | refine br_tt ?_ | refine br_ff ?_ | refine vP ?_ | refine vQ ?_ | refine vT ?_ | refine vF ?_ | refine br_and ?_ | refine br_or ?_ | refine br_d (fun _ => ?_) fun _ => ?_ | refine vM (fun _ => ?_) fun _ => ?_)
    exact h _
theorem deskOk_len {d : Desk} (h : deskOk d) : lenD d := ⟨⟨Nat.le_trans h.1.1.2.1 (by decide), Nat.lt_of_le_of_lt h.1.2.1.2 (by decide)⟩, Nat.lt_of_le_of_lt h.2.1 (by decide), fun x hx => ⟨Nat.le_trans (h.2.2 x hx).1.2.1 (by decide), Nat.lt_of_le_of_lt (h.2.2 x hx).2.1.2 (by decide)⟩⟩
theorem drawnQ.len {x : Place} (h : drawnQ x) : lenI x := ⟨Nat.le_trans h.bl (by decide), Nat.lt_of_le_of_lt h.rl (by decide)⟩
theorem drawnD.len {d : Desk} (h : drawnD d) : lenD d := ⟨h.1.len, Nat.lt_of_le_of_lt h.2.1 (by decide), fun x hx => (h.2.2 x hx).len⟩
theorem drawnQ.S {x : Place} (h : drawnQ x) : placeS x := ⟨h.i, h.bl, Nat.le_trans h.rl (by decide)⟩
theorem tup2_sem {a a' b b' : AV} (h1 : semE a a') (h2 : semE b b') : semE (.tup [a, b]) (.tup [a', b']) := by
  intro R w x hx
  cases hx with
  | data hd => cases hd
  | tup _ xs g1 g2 =>
    refine .tup [a', b'] xs g1 fun j hj => ?_
    replace hj : j < 2 := hj
    rcases (show j = 0 ∨ j = 1 by omega) with rfl | rfl
    · exact h1 R w _ (g2 0 (Nat.zero_lt_succ _))
    · exact h2 R w _ (g2 1 (Nat.lt_succ_self _))
def C238 : List AV → (AV → Prop) → Prop := con (X := List Int) (fun l => [slB l]) bytesI fun _ K => ∀ (d : Desk) (a : Dd), drawnD d → drawnA a → K (.tup [enDe d, ded a])
theorem F238 : FF 10 C238 := by
  refine fitXS [] (by simp) [(40, C42), (41, C167), (42, C184)] (by simp only [List.mem_cons, List.not_mem_nil, or_false]; rintro _ (rfl | rfl | rfl) <;> first | exact F42 | exact F167 | exact F184) Tryd.f10 ⟨rfl, by decide +kernel, by decide +kernel⟩ (fun _ _ _ hk h d a h1 h2 => hk _ (h d a h1 h2)) ?_
  rintro l K hl h
  refine ⟨Nat.le_of_ble_eq_true rfl, ?_⟩
  repeat' ((conv => whnf); first | refine vA ?_ | with_reducible first | refine v8 ?_ | refine Sp.mk ?_ ?_ | refine vS ?_ | refine vR ?_ | refine vB ?_ | refine br_nt ?_ | refine br_tt ?_ | refine br_ff ?_ | refine vP ?_ | refine vQ ?_ | refine vT ?_ | refine vF ?_ | refine br_and ?_ | refine br_or ?_ | refine br_d (fun _ => ?_) fun _ => ?_ | refine vM (fun _ => ?_) fun _ => ?_)
  refine ⟨_, _, [], [], rfl, ?_, ?_, l, rfl, rfl, ⟨hl⟩, ?_⟩
  · repeat' ((conv => whnf); first | with_reducible exact True.intro | exact vW | with_reducible refine And.intro ?_ ?_)
  · repeat' ((conv => whnf); first | with_reducible exact True.intro | exact vW | with_reducible refine And.intro ?_ ?_)
  rintro b ⟨h1, h2, h3, h4⟩
  dsimp only
  repeat' ((conv => whnf); first | refine vA ?_ | with_reducible first | refine v8 ?_ | refine Sp.mk ?_ ?_ | refine vS ?_ | refine vR ?_ | refine vB ?_ | refine br_nt ?_ | refine br_tt ?_ | refine br_ff ?_ | refine vP ?_ | refine vQ ?_ | refine vT ?_ | refine vF ?_ | refine br_and ?_ | refine br_or ?_ | refine br_d (fun _ => ?_) fun _ => ?_ | refine vM (fun _ => ?_) fun _ => ?_)
  refine ⟨_, _, [2], [], rfl, ?_, ?_, (⟨b, 0⟩, 12), rfl, rfl, ⟨⟨h1, h2, by dsimp only; omega, by dsimp only; omega⟩, by unfold i64r; dsimp only; omega⟩, ?_⟩
  · repeat' ((conv => whnf); first | with_reducible exact True.intro | exact vW | with_reducible refine And.intro ?_ ?_)
  · repeat' ((conv => whnf); first | with_reducible exact True.intro | exact vW | with_reducible refine And.intro ?_ ?_)
  rintro ⟨⟨p, bs, rs⟩, past⟩ p1 f a1 a2 hd hf
  dsimp only at a1 a2 ⊢
  repeat' ((conv => whnf); first | refine vA ?_ | with_reducible first | refine v8 ?_ | refine Sp.mk ?_ ?_ | refine vS ?_ | refine vR ?_ | refine vB ?_ | refine br_nt ?_ | refine br_tt ?_ | refine br_ff ?_ | refine vP ?_ | refine vQ ?_ | refine vT ?_ | refine vF ?_ | refine br_and ?_ | refine br_or ?_ | refine br_d (fun _ => ?_) fun _ => ?_ | refine vM (fun _ => ?_) fun _ => ?_)
  refine Dr.mk ⟨(.rd 0 (.rd 1 (.rd 2 (.rd 3 (.ef 4 (.ef 5 (.ef 6 .dn .no) .no) .no))))), by decide +kernel, ?_⟩
  repeat' ((conv => whnf); first | refine vA ?_ | with_reducible first | refine v8 ?_ | refine Sp.mk ?_ ?_ | refine vS ?_ | refine vR ?_ | refine vB ?_ | refine br_nt ?_ | refine br_tt ?_ | refine br_ff ?_ | refine vP ?_ | refine vQ ?_ | refine vT ?_ | refine vF ?_ | refine br_and ?_ | refine br_or ?_ | refine br_d (fun _ => ?_) fun _ => ?_ | refine vM (fun _ => ?_) fun _ => ?_)
  all_goals
    refine ⟨_, _, [2], [], rfl, ?_, ?_, ⟨⟨b, p1⟩, ⟨p, bs, rs⟩⟩, rfl, rfl, ⟨⟨h1, h2, by dsimp only; omega, by dsimp only; omega⟩, hd.1.S⟩, ?_⟩
    · repeat' ((conv => whnf); first | with_reducible exact True.intro | exact vW | with_reducible refine And.intro ?_ ?_)
    · repeat' ((conv => whnf); first | with_reducible exact True.intro | exact vW | with_reducible refine And.intro ?_ ?_)
    rintro ⟨k, a, b', w⟩ p2 c1 c2 ha
    dsimp only [ded, encD]
    repeat' ((conv => whnf); first | refine vA ?_ | with_reducible first | refine v8 ?_ | refine Sp.mk ?_ ?_ | refine vS ?_ | refine vR ?_ | refine vB ?_ | refine br_nt ?_ | refine br_tt ?_ | refine br_ff ?_ | refine vP ?_ | refine vQ ?_ | refine vT ?_ | refine vF ?_ | refine br_and ?_ | refine br_or ?_ | refine br_d (fun _ => ?_) fun _ => ?_ | refine vM (fun _ => ?_) fun _ => ?_)
  all_goals exact ⟨_, tup2_sem (desk_sem ⟨⟨p, bs, rs⟩, past⟩ hf) (semE_rfl _), h _ ⟨k, a, b', w⟩ hd ha⟩
end Go.Proofs.YtjefkdhecccfpaaDoor.Vc
end
section
/- Part XN: the law of deeds at desks. -/
namespace Go.Proofs.YtjefkdhecccfpaaDoor.Vc
open Go.Proofs
set_option maxRecDepth 100000
set_option maxHeartbeats 4000000
theorem fits_or {P : Program} {Gl : List (Nat × Go.Obj)} {f : FuncId} {C D : List AV → (AV → Prop) → Prop} (h : Fits P Gl f C) (g : Fits P Gl f D) : Fits P Gl f (fun us K => C us K ∨ D us K) :=
  ⟨h.has, fun us K K' hk q => q.imp (h.mono us K K' hk) (g.mono us K K' hk), fun us K q => q.elim (h.ok us K) (g.ok us K)⟩
def C134c : List AV → (AV → Prop) → Prop := fun us K => C134 us K ∨ C134a us K
theorem F134c : FF 13 C134c := fun Gl hG => fits_or (F134 Gl hG) (F134a Gl hG)
def C28n : List AV → (AV → Prop) → Prop := con (X := Sy) (fun x => [house x.p x.bs, slM x.t, .int .i64 x.c]) (fun x => termI ⟨x.p, x.bs⟩ x.t ∧ termOk ⟨x.p, x.bs⟩ x.t ∧ crowd x.p x.c) fun x K => K (.bool (says x.bs x.c x.t))
theorem crowd_i64 {p c : Int} (h : crowd p c) : i64r c := by
  have := pw_le h.1
  have := h.2
  exact ⟨by omega, by omega⟩
theorem F28n : FF 17 C28n := by
  refine fitX [(52, C38), (53, C54), (54, C39)] (by simp only [List.mem_cons, List.not_mem_nil, or_false]; rintro _ (rfl | rfl | rfl) <;> first | exact F38 | exact F54 | exact F39) [] (by simp) Tryd.f17 ⟨rfl, by decide +kernel, by decide +kernel⟩ (by intro x K K2 hk h; (try dsimp only at h ⊢); intros; apply hk; first | exact h | (apply h <;> assumption)) ?_
  rintro ⟨p, bs, t, c⟩ K ⟨hI, hO, hC⟩ h
  refine ⟨Nat.le_of_ble_eq_true rfl, ?_⟩
  dsimp only at h hI hO hC ⊢
  have hO' : termOk ⟨p, bs⟩ t := hO
  repeat' ((conv => whnf); first | refine vA ?_ | with_reducible first | refine v8 ?_ | refine Sp.mk ?_ ?_ | refine vS ?_ | refine vR ?_ | refine vB ?_ | refine br_nt ?_ | refine br_tt ?_ | refine br_ff ?_ | refine vP ?_ | refine vQ ?_ | refine vT ?_ | refine vF ?_ | refine br_and ?_ | refine br_or ?_ | refine br_d (fun _ => ?_) fun _ => ?_ | refine vM (fun _ => ?_) fun _ => ?_)
  refine ⟨(⟨p, bs⟩, t), ?_, ⟨hI⟩, ?_⟩
  · repeat' ((conv => whnf); first | with_reducible exact True.intro | exact vW | with_reducible refine And.intro ?_ ?_)
  repeat' ((conv => whnf); first | refine vA ?_ | with_reducible first | refine v8 ?_ | refine Sp.mk ?_ ?_ | refine vS ?_ | refine vR ?_ | refine vB ?_ | refine br_nt ?_ | refine br_tt ?_ | refine br_ff ?_ | refine vP ?_ | refine vQ ?_ | refine vT ?_ | refine vF ?_ | refine br_and ?_ | refine br_or ?_ | refine br_d (fun _ => ?_) fun _ => ?_ | refine vM (fun _ => ?_) fun _ => ?_)
  refine ⟨(p, c), ?_, ⟨hI.1.1, crowd_i64 hC⟩, ?_⟩
  · repeat' ((conv => whnf); first | with_reducible exact True.intro | exact vW | with_reducible refine And.intro ?_ ?_)
  have hC' : crowd (p, c).1 (p, c).2 := hC
  repeat' ((conv => whnf); first | refine vA ?_ | with_reducible first | refine v8 ?_ | refine Sp.mk ?_ ?_ | refine vS ?_ | refine vR ?_ | refine vB ?_ | refine br_nt ?_ | refine br_tt ?_ | refine br_ff ?_ | refine vP ?_ | refine vQ ?_ | refine vT ?_ | refine vF ?_ | refine br_and ?_ | refine br_or ?_ | refine br_d (fun _ => ?_) fun _ => ?_ | refine vM (fun _ => ?_) fun _ => ?_)
  refine ⟨⟨p, bs, t, c⟩, ?_, ⟨sayOk_of' hO hC, hO.2.1⟩, ?_⟩
  · repeat' ((conv => whnf); first | with_reducible exact True.intro | exact vW | with_reducible refine And.intro ?_ ?_)
  repeat' ((conv => whnf); first | refine vA ?_ | with_reducible first | refine v8 ?_ | refine Sp.mk ?_ ?_ | refine vS ?_ | refine vR ?_ | refine vB ?_ | refine br_nt ?_ | refine br_tt ?_ | refine br_ff ?_ | refine vP ?_ | refine vQ ?_ | refine vT ?_ | refine vF ?_ | refine br_and ?_ | refine br_or ?_ | refine br_d (fun _ => ?_) fun _ => ?_ | refine vM (fun _ => ?_) fun _ => ?_)
  exact h
def C240 := C176
theorem F240 : FF 16 C240 := by
  refine fitX [(51, C176)] (by simp only [List.mem_cons, List.not_mem_nil, or_false]; rintro _ rfl <;> first | exact F176) [] (by simp) Tryd.f16 ⟨rfl, by decide +kernel, by decide +kernel⟩ (fun _ _ _ hk h => ⟨fun e => hk _ (h.1 e), fun t e => hk _ (h.2 t e)⟩) ?_
  rintro ⟨⟨p, bs⟩, s⟩ K hI ⟨h1, h2⟩
  refine ⟨Nat.le_of_ble_eq_true rfl, ?_⟩
  dsimp only [enH] at hI ⊢
  repeat' ((conv => whnf); first | refine vA ?_ | with_reducible first | refine v8 ?_ | refine Sp.mk ?_ ?_ | refine vS ?_ | refine vR ?_ | refine vB ?_ | refine br_nt ?_ | refine br_tt ?_ | refine br_ff ?_ | refine vP ?_ | refine vQ ?_ | refine vT ?_ | refine vF ?_ | refine br_and ?_ | refine br_or ?_ | refine br_d (fun _ => ?_) fun _ => ?_ | refine vM (fun _ => ?_) fun _ => ?_)
  refine ⟨⟨⟨p, bs⟩, s⟩, ?_, ⟨hI⟩, ?_⟩
  · repeat' ((conv => whnf); first | with_reducible exact True.intro | exact vW | with_reducible refine And.intro ?_ ?_)
  refine ⟨fun e => ?_, fun t e => ?_⟩
  · have h1 := h1 e
    repeat' ((conv => whnf); first | refine vA ?_ | with_reducible first | refine v8 ?_ | refine Sp.mk ?_ ?_ | refine vS ?_ | refine vR ?_ | refine vB ?_ | refine br_nt ?_ | refine br_tt ?_ | refine br_ff ?_ | refine vP ?_ | refine vQ ?_ | refine vT ?_ | refine vF ?_ | refine br_and ?_ | refine br_or ?_ | refine br_d (fun _ => ?_) fun _ => ?_ | refine vM (fun _ => ?_) fun _ => ?_)
    exact h1
  · have h2 := h2 t e
    repeat' ((conv => whnf); first | refine vA ?_ | with_reducible first | refine v8 ?_ | refine Sp.mk ?_ ?_ | refine vS ?_ | refine vR ?_ | refine vB ?_ | refine br_nt ?_ | refine br_tt ?_ | refine br_ff ?_ | refine vP ?_ | refine vQ ?_ | refine vT ?_ | refine vF ?_ | refine br_and ?_ | refine br_or ?_ | refine br_d (fun _ => ?_) fun _ => ?_ | refine vM (fun _ => ?_) fun _ => ?_)
    exact h2
/-- What a deed that amends or drops tells of its rule. -/
theorem doD_cons {d e : Desk} {a : Dd} (hk : a.kind = 2 ∨ a.kind = 3) (h : doD d a = some e) : consR d.now a.a a.b = true ∧ e.now = madeP d.now a := by
  unfold doD at h
  split at h
  · rename_i g
    rw [g.1] at hk
    exact absurd hk (by decide)
  · split at h
    · rename_i g
      cases h
      refine ⟨?_, rfl⟩
      cases hc : consR d.now a.a a.b with
      | true => rfl
      | false =>
        obtain ⟨k, x, y, w⟩ := a
        dsimp only at hk hc
        rcases hk with hk | hk
        · rw [made_2n hk hc] at g
          exact absurd g.1 no_place
        · rw [made_3n hk fun q => by rw [hc] at q; cases q.2] at g
          exact absurd g.1 no_place
    · cases h
theorem doD_words {d e : Desk} {k x y : Int} {w : ByteArray} (hk : k = 3) (h : doD d ⟨k, x, y, w⟩ = some e) : w = ⟨#[]⟩ := Classical.byContradiction fun q => by
  rw [doD_bad (fun e => by have := congrArg Dd.kind e; dsimp only [backD] at this; omega) (by rw [made_3n hk fun g => q g.1]; exact no_place)] at h
  cases h
theorem consR_says {x : Place} {r c : Int} (h : consR x r c = true) : ∃ t, rdT 49 x.h (x.rules.getD r.toNat ⟨#[]⟩) = some t ∧ crowd x.p c ∧ says x.bs c t = true := by
  have hin := (consR_in h).1
  unfold consR at h
  rw [if_pos hin] at h
  cases e : rdT 49 x.h (x.rules.getD r.toNat ⟨#[]⟩) with
  | none => rw [e] at h; cases h
  | some t =>
    rw [e] at h
    simp only [Bool.and_eq_true, decide_eq_true_eq] at h
    exact ⟨t, rfl, h.1, h.2⟩
theorem cut_ext {l : List ByteArray} {a : Int} (h0 : 0 ≤ a) (h : a.toNat < l.length) : a.toNat - Int.toNat 0 + ((l.length : Int).toNat - (a + 1).toNat) = (l.take a.toNat ++ l.drop (a.toNat + 1)).length ∧ ∀ i, i < a.toNat - Int.toNat 0 + ((l.length : Int).toNat - (a + 1).toNat) → appF (a.toNat - Int.toNat 0) (fun i => (fun i => encS (l.getD i ⟨#[]⟩)) (Int.toNat 0 + i)) (fun i => (fun i => encS (l.getD i ⟨#[]⟩)) ((a + 1).toNat + i)) (0 + i) = encS ((l.take a.toNat ++ l.drop (a.toNat + 1)).getD i ⟨#[]⟩) := by
  have y3 := ext_cut h
  have e5 : (a + 1).toNat = a.toNat + 1 := by omega
  rw [e5, show Int.toNat 0 = 0 from rfl, Nat.sub_zero, Int.toNat_natCast]
  simp only [Nat.zero_add] at y3 ⊢
  exact y3
theorem cut_set {l : List ByteArray} {n : Nat} {w : ByteArray} : (l.set n w).take n ++ (l.set n w).drop (n + 1) = l.take n ++ l.drop (n + 1) := by
  rw [List.take_set_of_le (Nat.le_refl n), List.drop_set_of_lt (Nat.lt_succ_self n)]
def C231 : List AV → (AV → Prop) → Prop := con (X := List Int) (fun l => [slB l]) bytesI fun _ K => K (.bool true)
theorem F231 : FF 3 C231 := by
  refine fitX [(10, C238), (11, C239), (12, C183), (13, C134c), (14, C136), (15, C22), (16, C240), (17, C28n), (18, C161)] (by simp only [List.mem_cons, List.not_mem_nil, or_false]; rintro _ (rfl | rfl | rfl | rfl | rfl | rfl | rfl | rfl | rfl) <;> first | exact F238 | exact F239 | exact F183 | exact F134c | exact F136 | exact F22 | exact F240 | exact F28n | exact F161) [] (by simp) Tryd.f3 ⟨rfl, by decide +kernel, by decide +kernel⟩ (by intro x K K2 hk h; (try dsimp only at h ⊢); intros; apply hk; first | exact h | (apply h <;> assumption)) ?_
  rintro L K hL h
  refine ⟨Nat.le_of_ble_eq_true rfl, ?_⟩
  have hll := hL.2
  have htt : (true == true) = true := rfl
  have hff : (false == false) = true := rfl
  repeat' ((conv => whnf); first | refine vA ?_ | with_reducible first | refine v8 ?_ | refine Sp.mk ?_ ?_ | refine vS ?_ | refine vR ?_ | refine vB ?_ | refine br_nt ?_ | refine br_tt ?_ | refine br_ff ?_ | refine vP ?_ | refine vQ ?_ | refine vT ?_ | refine vF ?_ | refine br_and ?_ | refine br_or ?_ | refine br_d (fun _ => ?_) fun _ => ?_ | refine vM (fun _ => ?_) fun _ => ?_)
  · exact h
  refine ⟨L, ?_, ⟨hL⟩, ?_⟩
  · repeat' ((conv => whnf); first | with_reducible exact True.intro | exact vW | with_reducible refine And.intro ?_ ?_)
  rintro ⟨⟨p, bs, rs⟩, l⟩ ⟨k, a, b, w⟩ hd ha
  have hI := hd.I
  have haI := ha.I
  have hlen := hd.len
  dsimp only [enDe, deC, ded, encD]
  repeat' ((conv => whnf); first | refine vA ?_ | with_reducible first | refine v8 ?_ | refine Sp.mk ?_ ?_ | refine vS ?_ | refine vR ?_ | refine vB ?_ | refine br_nt ?_ | refine br_tt ?_ | refine br_ff ?_ | refine vP ?_ | refine vQ ?_ | refine vT ?_ | refine vF ?_ | refine br_and ?_ | refine br_or ?_ | refine br_d (fun _ => ?_) fun _ => ?_ | refine vM (fun _ => ?_) fun _ => ?_)
  refine ⟨⟨⟨⟨p, bs, rs⟩, l⟩, ⟨k, a, b, w⟩⟩, ?_, ⟨hI, haI⟩, ?_⟩
  · repeat' ((conv => whnf); first | with_reducible exact True.intro | exact vW | with_reducible refine And.intro ?_ ?_)
  dsimp only
  obtain ⟨X, hX⟩ : ∃ X, afterD ⟨⟨p, bs, rs⟩, l⟩ ⟨k, a, b, w⟩ = X := ⟨_, rfl⟩
  obtain ⟨c, hc⟩ : ∃ c, canD ⟨⟨p, bs, rs⟩, l⟩ ⟨k, a, b, w⟩ = c := ⟨_, rfl⟩
  have hXl : lenD X := by
    rw [← hX]
    unfold afterD
    split
    · rename_i hO
      cases hdo : doD ⟨⟨p, bs, rs⟩, l⟩ ⟨k, a, b, w⟩ with
      | none => exact hlen
      | some e => exact deskOk_len (doD_ok hO hdo)
    · exact lenD0
  rw [hX, hc]
  obtain ⟨⟨xp, xb, xr⟩, xl⟩ := X
  dsimp only [enDe, deC]
  repeat' ((conv => whnf); first | refine vA ?_ | with_reducible first | refine v8 ?_ | refine Sp.mk ?_ ?_ | refine vS ?_ | refine vR ?_ | refine vB ?_ | refine br_nt ?_ | refine br_tt ?_ | refine br_ff ?_ | refine vP ?_ | refine vQ ?_ | refine vT ?_ | refine vF ?_ | refine br_and ?_ | refine br_or ?_ | refine br_d (fun _ => ?_) fun _ => ?_ | refine vM (fun _ => ?_) fun _ => ?_)
  refine ⟨⟨⟨⟨p, bs, rs⟩, l⟩, ⟨k, a, b, w⟩⟩, ?_, ⟨hI, haI⟩, ?_⟩
  · repeat' ((conv => whnf); first | with_reducible exact True.intro | exact vW | with_reducible refine And.intro ?_ ?_)
  dsimp only
  rw [hX, hc]
  dsimp only [enDe, deC]
  repeat' ((conv => whnf); first | refine vA ?_ | with_reducible first | refine v8 ?_ | refine Sp.mk ?_ ?_ | refine vS ?_ | refine vR ?_ | refine vB ?_ | refine br_nt ?_ | refine br_tt ?_ | refine br_ff ?_ | refine vP ?_ | refine vQ ?_ | refine vT ?_ | refine vF ?_ | refine br_and ?_ | refine br_or ?_ | refine br_d (fun _ => ?_) fun _ => ?_ | refine vM (fun _ => ?_) fun _ => ?_)
  refine .inl ⟨⟨⟨xp, xb, xr⟩, xl⟩, ?_, ⟨hXl⟩, ?_⟩
  · repeat' ((conv => whnf); first | with_reducible exact True.intro | exact vW | with_reducible refine And.intro ?_ ?_)
  have hcc : (c == c) = true := beq_self_eq_true _
  cases c
  · repeat' ((conv => whnf); first | refine vA ?_ | with_reducible first | refine v8 ?_ | refine Sp.mk ?_ ?_ | refine vS ?_ | refine vR ?_ | refine vB ?_ | refine br_nt ?_ | refine br_tt ?_ | refine br_ff ?_ | refine vP ?_ | refine vQ ?_ | refine vT ?_ | refine vF ?_ | refine br_and ?_ | refine br_or ?_ | refine br_d (fun _ => ?_) fun _ => ?_ | refine vM (fun _ => ?_) fun _ => ?_)
    by_cases hO : deskOk ⟨⟨p, bs, rs⟩, l⟩
    · have hn : doD ⟨⟨p, bs, rs⟩, l⟩ ⟨k, a, b, w⟩ = none := by
        unfold canD at hc
        rw [decide_eq_true hO, Bool.true_and] at hc
        cases hdo : doD ⟨⟨p, bs, rs⟩, l⟩ ⟨k, a, b, w⟩ with
        | none => rfl
        | some e => rw [hdo] at hc; cases hc
      rw [afterD_none hO hn] at hX
      cases hX
      refine .inl ⟨⟨⟨p, bs, rs⟩, l⟩, ?_, ⟨hlen⟩, ?_⟩
      · repeat' ((conv => whnf); first | with_reducible exact True.intro | exact vW | with_reducible refine And.intro ?_ ?_)
      repeat' ((conv => whnf); first | refine vA ?_ | with_reducible first | refine v8 ?_ | refine Sp.mk ?_ ?_ | refine vS ?_ | refine vR ?_ | refine vB ?_ | refine br_nt ?_ | refine br_tt ?_ | refine br_ff ?_ | refine vP ?_ | refine vQ ?_ | refine vT ?_ | refine vF ?_ | refine br_and ?_ | refine br_or ?_ | refine br_d (fun _ => ?_) fun _ => ?_ | refine vM (fun _ => ?_) fun _ => ?_)
      refine ⟨(), ?_, ⟨trivial⟩, ?_⟩
      · repeat' ((conv => whnf); first | with_reducible exact True.intro | exact vW | with_reducible refine And.intro ?_ ?_)
      repeat' ((conv => whnf); first | refine vA ?_ | with_reducible first | refine v8 ?_ | refine Sp.mk ?_ ?_ | refine vS ?_ | refine vR ?_ | refine vB ?_ | refine br_nt ?_ | refine br_tt ?_ | refine br_ff ?_ | refine vP ?_ | refine vQ ?_ | refine vT ?_ | refine vF ?_ | refine br_and ?_ | refine br_or ?_ | refine br_d (fun _ => ?_) fun _ => ?_ | refine vM (fun _ => ?_) fun _ => ?_)
      exact h
    · refine .inr ⟨(⟨⟨xp, xb, xr⟩, xl⟩, ⟨⟨p, bs, rs⟩, l⟩), ?_, ⟨hXl, hlen⟩, ?_⟩
      · repeat' ((conv => whnf); first | with_reducible exact True.intro | exact vW | with_reducible refine And.intro ?_ ?_)
      intro s
      cases s
      · repeat' ((conv => whnf); first | refine vA ?_ | with_reducible first | refine v8 ?_ | refine Sp.mk ?_ ?_ | refine vS ?_ | refine vR ?_ | refine vB ?_ | refine br_nt ?_ | refine br_tt ?_ | refine br_ff ?_ | refine vP ?_ | refine vQ ?_ | refine vT ?_ | refine vF ?_ | refine br_and ?_ | refine br_or ?_ | refine br_d (fun _ => ?_) fun _ => ?_ | refine vM (fun _ => ?_) fun _ => ?_)
        refine ⟨⟨⟨p, bs, rs⟩, l⟩, ?_, ⟨hI⟩, ?_⟩
        · repeat' ((conv => whnf); first | with_reducible exact True.intro | exact vW | with_reducible refine And.intro ?_ ?_)
        repeat' ((conv => whnf); first | refine vA ?_ | with_reducible first | refine v8 ?_ | refine Sp.mk ?_ ?_ | refine vS ?_ | refine vR ?_ | refine vB ?_ | refine br_nt ?_ | refine br_tt ?_ | refine br_ff ?_ | refine vP ?_ | refine vQ ?_ | refine vT ?_ | refine vF ?_ | refine br_and ?_ | refine br_or ?_ | refine br_d (fun _ => ?_) fun _ => ?_ | refine vM (fun _ => ?_) fun _ => ?_)
        refine ⟨(), ?_, ⟨trivial⟩, ?_⟩
        · repeat' ((conv => whnf); first | with_reducible exact True.intro | exact vW | with_reducible refine And.intro ?_ ?_)
        repeat' ((conv => whnf); first | refine vA ?_ | with_reducible first | refine v8 ?_ | refine Sp.mk ?_ ?_ | refine vS ?_ | refine vR ?_ | refine vB ?_ | refine br_nt ?_ | refine br_tt ?_ | refine br_ff ?_ | refine vP ?_ | refine vQ ?_ | refine vT ?_ | refine vF ?_ | refine br_and ?_ | refine br_or ?_ | refine br_d (fun _ => ?_) fun _ => ?_ | refine vM (fun _ => ?_) fun _ => ?_)
        exact h
      · repeat' ((conv => whnf); first | refine vA ?_ | with_reducible first | refine v8 ?_ | refine Sp.mk ?_ ?_ | refine vS ?_ | refine vR ?_ | refine vB ?_ | refine br_nt ?_ | refine br_tt ?_ | refine br_ff ?_ | refine vP ?_ | refine vQ ?_ | refine vT ?_ | refine vF ?_ | refine br_and ?_ | refine br_or ?_ | refine br_d (fun _ => ?_) fun _ => ?_ | refine vM (fun _ => ?_) fun _ => ?_)
        refine ⟨(), ?_, ⟨trivial⟩, ?_⟩
        · repeat' ((conv => whnf); first | with_reducible exact True.intro | exact vW | with_reducible refine And.intro ?_ ?_)
        repeat' ((conv => whnf); first | refine vA ?_ | with_reducible first | refine v8 ?_ | refine Sp.mk ?_ ?_ | refine vS ?_ | refine vR ?_ | refine vB ?_ | refine br_nt ?_ | refine br_tt ?_ | refine br_ff ?_ | refine vP ?_ | refine vQ ?_ | refine vT ?_ | refine vF ?_ | refine br_and ?_ | refine br_or ?_ | refine br_d (fun _ => ?_) fun _ => ?_ | refine vM (fun _ => ?_) fun _ => ?_)
        exact h
  · obtain ⟨e, hO, he, hae⟩ := canD_t hc
    rw [hX] at hae
    subst hae
    have hOe := doD_ok hO he
    have hIe := deskOk_I hOe
    repeat' ((conv => whnf); first | refine vA ?_ | with_reducible first | refine v8 ?_ | refine Sp.mk ?_ ?_ | refine vS ?_ | refine vR ?_ | refine vB ?_ | refine br_nt ?_ | refine br_tt ?_ | refine br_ff ?_ | refine vP ?_ | refine vQ ?_ | refine vT ?_ | refine vF ?_ | refine br_and ?_ | refine br_or ?_ | refine br_d (fun _ => ?_) fun _ => ?_ | refine vM (fun _ => ?_) fun _ => ?_)
    refine ⟨⟨⟨⟨xp, xb, xr⟩, xl⟩, backD⟩, ?_, ⟨hIe, (⟨⟨by decide, by decide⟩, ⟨by decide, by decide⟩, ⟨by decide, by decide⟩, by decide⟩ : dedI backD)⟩, ?_⟩
    · repeat' ((conv => whnf); first | with_reducible exact True.intro | exact vW | with_reducible refine And.intro ?_ ?_)
    dsimp only
    obtain ⟨Y, hY⟩ : ∃ Y, afterD ⟨⟨xp, xb, xr⟩, xl⟩ backD = Y := ⟨_, rfl⟩
    obtain ⟨cb, hcb⟩ : ∃ c, canD ⟨⟨xp, xb, xr⟩, xl⟩ backD = c := ⟨_, rfl⟩
    have hYl : lenD Y := by
      rw [← hY]
      unfold afterD
      rw [if_pos hOe]
      cases hdo : doD ⟨⟨xp, xb, xr⟩, xl⟩ backD with
      | none => exact hXl
      | some e => exact deskOk_len (doD_ok hOe hdo)
    have hbk : k ≠ 4 → l.length < 8 → Y = ⟨⟨p, bs, rs⟩, l⟩ ∧ cb = true := fun hk h8 => by
      have hnb : (⟨k, a, b, w⟩ : Dd) ≠ backD := fun e => hk (congrArg Dd.kind e)
      have hb := doD_back h8 hnb he
      rw [← hY, ← hcb]
      exact ⟨afterD_some hOe hb, canD_some hOe hb⟩
    rw [hY, hcb]
    clear hY hcb
    obtain ⟨⟨yp, yb, yr⟩, yl⟩ := Y
    dsimp only [enDe, deC]
    by_cases hk23 : k = 2 ∨ k = 3
    · obtain ⟨hcr, hnow⟩ := doD_cons hk23 he
      have hr := consR_in hcr
      obtain ⟨t, ht, hcd, hsy⟩ := consR_says hcr
      obtain ⟨htI, hOt⟩ := rdT_termI hI.1.1 ht
      have hI3 := hI.1.2.2
      have hrl := hO.1.2.1.2
      have ea : (a + 1).toNat = a.toNat + 1 := by have := hr.1.1; dsimp only at this; omega
      dsimp only at hr hnow ht hcd hsy hI3 htI hOt hrl
      have y4 := cut_ext (l := rs) hr.1.1 hr.2
      rcases hk23 with hk2 | hk3
      · rw [made_2 (x := ⟨p, bs, rs⟩) hk2 hcr] at hnow
        obtain ⟨rfl, rfl, rfl⟩ := place_eq.1 (show (⟨xp, xb, xr⟩ : Place) = ⟨p, bs, rs.set a.toNat w⟩ from hnow)
        clear hnow
        repeat' ((conv => whnf); first | refine vA ?_ | with_reducible first | refine v8 ?_ | refine Sp.mk ?_ ?_ | refine vS ?_ | refine vR ?_ | refine vB ?_ | refine br_nt ?_ | refine br_tt ?_ | refine br_ff ?_ | refine vP ?_ | refine vQ ?_ | refine vT ?_ | refine vF ?_ | refine br_and ?_ | refine br_or ?_ | refine br_d (fun _ => ?_) fun _ => ?_ | refine vM (fun _ => ?_) fun _ => ?_)
        refine Dr.mk ⟨(.rd 0 (.rd 1 (.rd 2 (.rd 3 (.rd 4 (.rd 5 (.rd 6 (.rd 7 (.rd 8 (.rd 9 (.ef 10 (.rd 11 (.rd 12 (.rd 13 (.rd 14 (.rd 15 .dn))))) .no))))))))))), by decide +kernel, ?_⟩
        repeat' ((conv => whnf); first | refine vA ?_ | with_reducible first | refine v8 ?_ | refine Sp.mk ?_ ?_ | refine vS ?_ | refine vR ?_ | refine vB ?_ | refine br_nt ?_ | refine br_tt ?_ | refine br_ff ?_ | refine vP ?_ | refine vQ ?_ | refine vT ?_ | refine vF ?_ | refine br_and ?_ | refine br_or ?_ | refine br_d (fun _ => ?_) fun _ => ?_ | refine vM (fun _ => ?_) fun _ => ?_)
        refine ⟨⟨⟨xp, xb⟩, rs.getD a.toNat ⟨#[]⟩⟩, ?_, ⟨hI.1.1, getD_len hI3 hr.2⟩, ?_⟩
        · repeat' ((conv => whnf); first | with_reducible exact True.intro | exact vW | with_reducible refine And.intro ?_ ?_)
        refine ⟨fun e => ?_, fun u e => ?_⟩
        · rw [show rdT 49 (Place.h ⟨xp, xb, rs⟩) (rs.getD a.toNat ⟨#[]⟩) = none from e] at ht
          cases ht
        rw [show rdT 49 (Place.h ⟨xp, xb, rs⟩) (rs.getD a.toNat ⟨#[]⟩) = some u from e] at ht
        cases ht
        repeat' ((conv => whnf); first | refine vA ?_ | with_reducible first | refine v8 ?_ | refine Sp.mk ?_ ?_ | refine vS ?_ | refine vR ?_ | refine vB ?_ | refine br_nt ?_ | refine br_tt ?_ | refine br_ff ?_ | refine vP ?_ | refine vQ ?_ | refine vT ?_ | refine vF ?_ | refine br_and ?_ | refine br_or ?_ | refine br_d (fun _ => ?_) fun _ => ?_ | refine vM (fun _ => ?_) fun _ => ?_)
        refine Dr.mk ⟨(.rd 1 (.rd 2 (.rd 3 (.rd 4 (.rd 5 (.rd 6 (.rd 8 (.rd 9 (.rd 10 (.rd 11 (.rd 12 (.rd 13 (.rd 14 (.ef 0 (.ef 7 (.ef 15 (.rd 16 .dn) .no) .no) .no)))))))))))))), by decide +kernel, ?_⟩
        have hsl : (rs.set a.toNat w).length = rs.length := List.length_set ..
        have y5 := cut_ext (l := rs.set a.toNat w) hr.1.1 (by rw [hsl]; exact hr.2)
        rw [cut_set] at y5
        repeat' ((conv => whnf); first | refine vA ?_ | with_reducible first | refine v8 ?_ | refine Sp.mk ?_ ?_ | refine vS ?_ | refine vR ?_ | refine vB ?_ | refine br_nt ?_ | refine br_tt ?_ | refine br_ff ?_ | refine vP ?_ | refine vQ ?_ | refine vT ?_ | refine vF ?_ | refine br_and ?_ | refine br_or ?_ | refine br_d (fun _ => ?_) fun _ => ?_ | refine vM (fun _ => ?_) fun _ => ?_)
        refine Dr.mk ⟨(.rd 1 (.rd 2 (.rd 3 (.rd 4 (.rd 6 (.rd 7 (.rd 8 (.rd 9 (.rd 10 (.ef 0 (.ef 5 (.ef 11 (.rd 12 .dn) .no) .no) .no)))))))))), by decide +kernel, ?_⟩
        repeat' ((conv => whnf); first | refine vA ?_ | with_reducible first | refine v8 ?_ | refine Sp.mk ?_ ?_ | refine vS ?_ | refine vR ?_ | refine vB ?_ | refine br_nt ?_ | refine br_tt ?_ | refine br_ff ?_ | refine vP ?_ | refine vQ ?_ | refine vT ?_ | refine vF ?_ | refine br_and ?_ | refine br_or ?_ | refine br_d (fun _ => ?_) fun _ => ?_ | refine vM (fun _ => ?_) fun _ => ?_)
        refine ⟨⟨xp, xb, t, b⟩, ?_, ⟨htI, hOt, hcd⟩, ?_⟩
        · repeat' ((conv => whnf); first | with_reducible exact True.intro | exact vW | with_reducible refine And.intro ?_ ?_)
        dsimp only
        rw [hsy]
        repeat' ((conv => whnf); first | refine vA ?_ | with_reducible first | refine v8 ?_ | refine Sp.mk ?_ ?_ | refine vS ?_ | refine vR ?_ | refine vB ?_ | refine br_nt ?_ | refine br_tt ?_ | refine br_ff ?_ | refine vP ?_ | refine vQ ?_ | refine vT ?_ | refine vF ?_ | refine br_and ?_ | refine br_or ?_ | refine br_d (fun _ => ?_) fun _ => ?_ | refine vM (fun _ => ?_) fun _ => ?_)
        refine ⟨rs.take a.toNat ++ rs.drop (a.toNat + 1), ?_, ⟨by dsimp only; rw [List.length_append, List.length_take, List.length_drop]; omega⟩, ?_⟩
        · repeat' ((conv => whnf); first | with_reducible exact True.intro | exact vW | with_reducible refine And.intro ?_ ?_)
          all_goals first | exact Chk.mk y4 | exact Chk.mk y5
        repeat' ((conv => whnf); first | refine vA ?_ | with_reducible first | refine v8 ?_ | refine Sp.mk ?_ ?_ | refine vS ?_ | refine vR ?_ | refine vB ?_ | refine br_nt ?_ | refine br_tt ?_ | refine br_ff ?_ | refine vP ?_ | refine vQ ?_ | refine vT ?_ | refine vF ?_ | refine br_and ?_ | refine br_or ?_ | refine br_d (fun _ => ?_) fun _ => ?_ | refine vM (fun _ => ?_) fun _ => ?_)
        refine ⟨⟨⟨xp, xb, (rs.set a.toNat w)⟩, xl⟩, ?_, ⟨hIe⟩, ?_⟩
        · repeat' ((conv => whnf); first | with_reducible exact True.intro | exact vW | with_reducible refine And.intro ?_ ?_)
        by_cases hk4 : k = 4
        · repeat' ((conv => whnf); first | refine vA ?_ | with_reducible first | refine v8 ?_ | refine Sp.mk ?_ ?_ | refine vS ?_ | refine vR ?_ | refine vB ?_ | refine br_nt ?_ | refine br_tt ?_ | refine br_ff ?_ | refine vP ?_ | refine vQ ?_ | refine vT ?_ | refine vF ?_ | refine br_and ?_ | refine br_or ?_ | refine br_d (fun _ => ?_) fun _ => ?_ | refine vM (fun _ => ?_) fun _ => ?_)
          exact h
        · by_cases hl8 : l.length < 8
          · obtain ⟨e1, rfl⟩ := hbk hk4 hl8
            cases e1
            repeat' ((conv => whnf); first | refine vA ?_ | with_reducible first | refine v8 ?_ | refine Sp.mk ?_ ?_ | refine vS ?_ | refine vR ?_ | refine vB ?_ | refine br_nt ?_ | refine br_tt ?_ | refine br_ff ?_ | refine vP ?_ | refine vQ ?_ | refine vT ?_ | refine vF ?_ | refine br_and ?_ | refine br_or ?_ | refine br_d (fun _ => ?_) fun _ => ?_ | refine vM (fun _ => ?_) fun _ => ?_)
            refine .inl ⟨⟨⟨xp, xb, rs⟩, l⟩, ?_, ⟨hlen⟩, ?_⟩
            · repeat' ((conv => whnf); first | with_reducible exact True.intro | exact vW | with_reducible refine And.intro ?_ ?_)
            repeat' ((conv => whnf); first | refine vA ?_ | with_reducible first | refine v8 ?_ | refine Sp.mk ?_ ?_ | refine vS ?_ | refine vR ?_ | refine vB ?_ | refine br_nt ?_ | refine br_tt ?_ | refine br_ff ?_ | refine vP ?_ | refine vQ ?_ | refine vT ?_ | refine vF ?_ | refine br_and ?_ | refine br_or ?_ | refine br_d (fun _ => ?_) fun _ => ?_ | refine vM (fun _ => ?_) fun _ => ?_)
            exact h
          · repeat' ((conv => whnf); first | refine vA ?_ | with_reducible first | refine v8 ?_ | refine Sp.mk ?_ ?_ | refine vS ?_ | refine vR ?_ | refine vB ?_ | refine br_nt ?_ | refine br_tt ?_ | refine br_ff ?_ | refine vP ?_ | refine vQ ?_ | refine vT ?_ | refine vF ?_ | refine br_and ?_ | refine br_or ?_ | refine br_d (fun _ => ?_) fun _ => ?_ | refine vM (fun _ => ?_) fun _ => ?_)
            exact h
      · rw [made_3 (x := ⟨p, bs, rs⟩) hk3 (doD_words hk3 he) hcr] at hnow
        obtain ⟨rfl, rfl, rfl⟩ := place_eq.1 (show (⟨xp, xb, xr⟩ : Place) = ⟨p, bs, rs.take a.toNat ++ rs.drop (a.toNat + 1)⟩ from hnow)
        clear hnow
        repeat' ((conv => whnf); first | refine vA ?_ | with_reducible first | refine v8 ?_ | refine Sp.mk ?_ ?_ | refine vS ?_ | refine vR ?_ | refine vB ?_ | refine br_nt ?_ | refine br_tt ?_ | refine br_ff ?_ | refine vP ?_ | refine vQ ?_ | refine vT ?_ | refine vF ?_ | refine br_and ?_ | refine br_or ?_ | refine br_d (fun _ => ?_) fun _ => ?_ | refine vM (fun _ => ?_) fun _ => ?_)
        refine Dr.mk ⟨(.rd 0 (.rd 1 (.rd 2 (.rd 3 (.rd 4 (.rd 5 (.rd 6 (.rd 7 (.rd 8 (.rd 9 (.ef 10 (.rd 11 (.rd 12 (.rd 13 (.rd 14 (.rd 15 .dn))))) .no))))))))))), by decide +kernel, ?_⟩
        repeat' ((conv => whnf); first | refine vA ?_ | with_reducible first | refine v8 ?_ | refine Sp.mk ?_ ?_ | refine vS ?_ | refine vR ?_ | refine vB ?_ | refine br_nt ?_ | refine br_tt ?_ | refine br_ff ?_ | refine vP ?_ | refine vQ ?_ | refine vT ?_ | refine vF ?_ | refine br_and ?_ | refine br_or ?_ | refine br_d (fun _ => ?_) fun _ => ?_ | refine vM (fun _ => ?_) fun _ => ?_)
        refine ⟨⟨⟨xp, xb⟩, rs.getD a.toNat ⟨#[]⟩⟩, ?_, ⟨hI.1.1, getD_len hI3 hr.2⟩, ?_⟩
        · repeat' ((conv => whnf); first | with_reducible exact True.intro | exact vW | with_reducible refine And.intro ?_ ?_)
        refine ⟨fun e => ?_, fun u e => ?_⟩
        · rw [show rdT 49 (Place.h ⟨xp, xb, rs⟩) (rs.getD a.toNat ⟨#[]⟩) = none from e] at ht
          cases ht
        rw [show rdT 49 (Place.h ⟨xp, xb, rs⟩) (rs.getD a.toNat ⟨#[]⟩) = some u from e] at ht
        cases ht
        repeat' ((conv => whnf); first | refine vA ?_ | with_reducible first | refine v8 ?_ | refine Sp.mk ?_ ?_ | refine vS ?_ | refine vR ?_ | refine vB ?_ | refine br_nt ?_ | refine br_tt ?_ | refine br_ff ?_ | refine vP ?_ | refine vQ ?_ | refine vT ?_ | refine vF ?_ | refine br_and ?_ | refine br_or ?_ | refine br_d (fun _ => ?_) fun _ => ?_ | refine vM (fun _ => ?_) fun _ => ?_)
        refine Dr.mk ⟨(.rd 1 (.rd 2 (.rd 3 (.rd 4 (.rd 5 (.rd 6 (.rd 8 (.rd 9 (.rd 10 (.rd 11 (.rd 12 (.rd 13 (.rd 14 (.ef 0 (.ef 7 (.ef 15 (.rd 16 .dn) .no) .no) .no)))))))))))))), by decide +kernel, ?_⟩
        have y5 : (rs.take a.toNat ++ rs.drop (a.toNat + 1)).length = (rs.take a.toNat ++ rs.drop (a.toNat + 1)).length ∧ ∀ i, i < (rs.take a.toNat ++ rs.drop (a.toNat + 1)).length → encS ((rs.take a.toNat ++ rs.drop (a.toNat + 1)).getD i ⟨#[]⟩) = encS ((rs.take a.toNat ++ rs.drop (a.toNat + 1)).getD i ⟨#[]⟩) := ⟨rfl, fun _ _ => rfl⟩
        repeat' ((conv => whnf); first | refine vA ?_ | with_reducible first | refine v8 ?_ | refine Sp.mk ?_ ?_ | refine vS ?_ | refine vR ?_ | refine vB ?_ | refine br_nt ?_ | refine br_tt ?_ | refine br_ff ?_ | refine vP ?_ | refine vQ ?_ | refine vT ?_ | refine vF ?_ | refine br_and ?_ | refine br_or ?_ | refine br_d (fun _ => ?_) fun _ => ?_ | refine vM (fun _ => ?_) fun _ => ?_)
        refine ⟨⟨xp, xb, t, b⟩, ?_, ⟨htI, hOt, hcd⟩, ?_⟩
        · repeat' ((conv => whnf); first | with_reducible exact True.intro | exact vW | with_reducible refine And.intro ?_ ?_)
        dsimp only
        rw [hsy]
        repeat' ((conv => whnf); first | refine vA ?_ | with_reducible first | refine v8 ?_ | refine Sp.mk ?_ ?_ | refine vS ?_ | refine vR ?_ | refine vB ?_ | refine br_nt ?_ | refine br_tt ?_ | refine br_ff ?_ | refine vP ?_ | refine vQ ?_ | refine vT ?_ | refine vF ?_ | refine br_and ?_ | refine br_or ?_ | refine br_d (fun _ => ?_) fun _ => ?_ | refine vM (fun _ => ?_) fun _ => ?_)
        refine ⟨rs.take a.toNat ++ rs.drop (a.toNat + 1), ?_, ⟨by dsimp only; rw [List.length_append, List.length_take, List.length_drop]; omega⟩, ?_⟩
        · repeat' ((conv => whnf); first | with_reducible exact True.intro | exact vW | with_reducible refine And.intro ?_ ?_)
          all_goals first | exact Chk.mk y4 | exact Chk.mk y5
        repeat' ((conv => whnf); first | refine vA ?_ | with_reducible first | refine v8 ?_ | refine Sp.mk ?_ ?_ | refine vS ?_ | refine vR ?_ | refine vB ?_ | refine br_nt ?_ | refine br_tt ?_ | refine br_ff ?_ | refine vP ?_ | refine vQ ?_ | refine vT ?_ | refine vF ?_ | refine br_and ?_ | refine br_or ?_ | refine br_d (fun _ => ?_) fun _ => ?_ | refine vM (fun _ => ?_) fun _ => ?_)
        refine ⟨⟨⟨xp, xb, (rs.take a.toNat ++ rs.drop (a.toNat + 1))⟩, xl⟩, ?_, ⟨hIe⟩, ?_⟩
        · repeat' ((conv => whnf); first | with_reducible exact True.intro | exact vW | with_reducible refine And.intro ?_ ?_)
        by_cases hk4 : k = 4
        · repeat' ((conv => whnf); first | refine vA ?_ | with_reducible first | refine v8 ?_ | refine Sp.mk ?_ ?_ | refine vS ?_ | refine vR ?_ | refine vB ?_ | refine br_nt ?_ | refine br_tt ?_ | refine br_ff ?_ | refine vP ?_ | refine vQ ?_ | refine vT ?_ | refine vF ?_ | refine br_and ?_ | refine br_or ?_ | refine br_d (fun _ => ?_) fun _ => ?_ | refine vM (fun _ => ?_) fun _ => ?_)
          exact h
        · by_cases hl8 : l.length < 8
          · obtain ⟨e1, rfl⟩ := hbk hk4 hl8
            cases e1
            repeat' ((conv => whnf); first | refine vA ?_ | with_reducible first | refine v8 ?_ | refine Sp.mk ?_ ?_ | refine vS ?_ | refine vR ?_ | refine vB ?_ | refine br_nt ?_ | refine br_tt ?_ | refine br_ff ?_ | refine vP ?_ | refine vQ ?_ | refine vT ?_ | refine vF ?_ | refine br_and ?_ | refine br_or ?_ | refine br_d (fun _ => ?_) fun _ => ?_ | refine vM (fun _ => ?_) fun _ => ?_)
            refine .inl ⟨⟨⟨xp, xb, rs⟩, l⟩, ?_, ⟨hlen⟩, ?_⟩
            · repeat' ((conv => whnf); first | with_reducible exact True.intro | exact vW | with_reducible refine And.intro ?_ ?_)
            repeat' ((conv => whnf); first | refine vA ?_ | with_reducible first | refine v8 ?_ | refine Sp.mk ?_ ?_ | refine vS ?_ | refine vR ?_ | refine vB ?_ | refine br_nt ?_ | refine br_tt ?_ | refine br_ff ?_ | refine vP ?_ | refine vQ ?_ | refine vT ?_ | refine vF ?_ | refine br_and ?_ | refine br_or ?_ | refine br_d (fun _ => ?_) fun _ => ?_ | refine vM (fun _ => ?_) fun _ => ?_)
            exact h
          · repeat' ((conv => whnf); first | refine vA ?_ | with_reducible first | refine v8 ?_ | refine Sp.mk ?_ ?_ | refine vS ?_ | refine vR ?_ | refine vB ?_ | refine br_nt ?_ | refine br_tt ?_ | refine br_ff ?_ | refine vP ?_ | refine vQ ?_ | refine vT ?_ | refine vF ?_ | refine br_and ?_ | refine br_or ?_ | refine br_d (fun _ => ?_) fun _ => ?_ | refine vM (fun _ => ?_) fun _ => ?_)
            exact h
    · repeat' ((conv => whnf); first | refine vA ?_ | with_reducible first | refine v8 ?_ | refine Sp.mk ?_ ?_ | refine vS ?_ | refine vR ?_ | refine vB ?_ | refine br_nt ?_ | refine br_tt ?_ | refine br_ff ?_ | refine vP ?_ | refine vQ ?_ | refine vT ?_ | refine vF ?_ | refine br_and ?_ | refine br_or ?_ | refine br_d (fun _ => ?_) fun _ => ?_ | refine vM (fun _ => ?_) fun _ => ?_)
      refine ⟨⟨⟨xp, xb, xr⟩, xl⟩, ?_, ⟨hIe⟩, ?_⟩
      · repeat' ((conv => whnf); first | with_reducible exact True.intro | exact vW | with_reducible refine And.intro ?_ ?_)
      by_cases hk4 : k = 4
      · repeat' ((conv => whnf); first | refine vA ?_ | with_reducible first | refine v8 ?_ | refine Sp.mk ?_ ?_ | refine vS ?_ | refine vR ?_ | refine vB ?_ | refine br_nt ?_ | refine br_tt ?_ | refine br_ff ?_ | refine vP ?_ | refine vQ ?_ | refine vT ?_ | refine vF ?_ | refine br_and ?_ | refine br_or ?_ | refine br_d (fun _ => ?_) fun _ => ?_ | refine vM (fun _ => ?_) fun _ => ?_)
        exact h
      · by_cases hl8 : l.length < 8
        · obtain ⟨e1, rfl⟩ := hbk hk4 hl8
          cases e1
          repeat' ((conv => whnf); first | refine vA ?_ | with_reducible first | refine v8 ?_ | refine Sp.mk ?_ ?_ | refine vS ?_ | refine vR ?_ | refine vB ?_ | refine br_nt ?_ | refine br_tt ?_ | refine br_ff ?_ | refine vP ?_ | refine vQ ?_ | refine vT ?_ | refine vF ?_ | refine br_and ?_ | refine br_or ?_ | refine br_d (fun _ => ?_) fun _ => ?_ | refine vM (fun _ => ?_) fun _ => ?_)
          refine .inl ⟨⟨⟨p, bs, rs⟩, l⟩, ?_, ⟨hlen⟩, ?_⟩
          · repeat' ((conv => whnf); first | with_reducible exact True.intro | exact vW | with_reducible refine And.intro ?_ ?_)
          repeat' ((conv => whnf); first | refine vA ?_ | with_reducible first | refine v8 ?_ | refine Sp.mk ?_ ?_ | refine vS ?_ | refine vR ?_ | refine vB ?_ | refine br_nt ?_ | refine br_tt ?_ | refine br_ff ?_ | refine vP ?_ | refine vQ ?_ | refine vT ?_ | refine vF ?_ | refine br_and ?_ | refine br_or ?_ | refine br_d (fun _ => ?_) fun _ => ?_ | refine vM (fun _ => ?_) fun _ => ?_)
          exact h
        · repeat' ((conv => whnf); first | refine vA ?_ | with_reducible first | refine v8 ?_ | refine Sp.mk ?_ ?_ | refine vS ?_ | refine vR ?_ | refine vB ?_ | refine br_nt ?_ | refine br_tt ?_ | refine br_ff ?_ | refine vP ?_ | refine vQ ?_ | refine vT ?_ | refine vF ?_ | refine br_and ?_ | refine br_or ?_ | refine br_d (fun _ => ?_) fun _ => ?_ | refine vM (fun _ => ?_) fun _ => ?_)
          exact h
end Go.Proofs.YtjefkdhecccfpaaDoor.Vc
end
section
/- The row of FnDeskDo: for every input it returns true. -/
namespace Go.Proofs.YtjefkdhecccfpaaDoor.Vc
open Go.Proofs Go.ChangeShapes Go.WideShapes Go.ChangeAt Go.RowKit
open Go.Proofs.YtjefkdhecccfpaaDoor
set_option maxRecDepth 100000
theorem metFnDeskDo (os : Os) (args : Array Value) : laidMet Tryd.prog Rows.fnDeskDoRow.laid ((World.laidAll Tryd.prog os Rows.fnDeskDoRow.laid).forCall (fun _ _ => 0) ⟨#[], args, []⟩).memory :=
  laidMet_laidAll args (by kernel_rfl) (by kernel_rfl)
theorem goodFnDeskDo {W : World} (h : laidMet Tryd.prog Rows.fnDeskDoRow.laid W) : Good W :=
  ⟨Lib.tabIs_of_head (rest := []) rfl rfl rfl rfl (by kernel_rfl) (by kernel_rfl) (h.filter fun x => x.1 == "internal/strconv.uint64pow10")⟩
theorem liftedFnDeskDo (os : Os) (started : os.Started) (H : Type) (enc : TypeId × Value → H) :
    ReturnsInHanded {} Tryd.checked os 3 .any (fun w args => (Rows.fnDeskDoSpec.pre enc Tryd.prog Tryd.f3 [] false w args ∧ laidMet Tryd.prog Rows.fnDeskDoRow.laid w) ∧ sizedMet enc Tryd.prog Tryd.f3 (OpenSpec.ofChange Rows.fnDeskDoSpec) false w args)
      (Rows.fnDeskDoSpec.post enc Tryd.prog Tryd.f3 false true false false) := by
  refine returnsInHanded_of_change_and (C := Tryd.checked) (X := fun w _ => laidMet Tryd.prog Rows.fnDeskDoRow.laid w) (fun _ _ _ hh h => h.of_heap hh) own started (by kernel_rfl) Tryd.func3
    (ChangeSpec.witness_at (enc := enc) (C := Tryd.checked) (os := os) (X := fun w _ => laidMet Tryd.prog Rows.fnDeskDoRow.laid w) false (World.laidAll Tryd.prog os Rows.fnDeskDoRow.laid) #[.slice none 0 0] 8 (World.laidAll_os _ _ _) (by kernel_rfl) (by kernel_rfl) (by kernel_rfl) (by kernel_rfl) (by kernel_rfl) (metFnDeskDo os _)) ?_
  intro W base args ds gs before hval0 hW _ _ hL _
  have hval : ∀ (j : Nat) t v, Tryd.f3.params[j]? = some t → args[j]? = some v → Value.okWide Tryd.prog W .any base t v := hval0
  have hW' := hW
  obtain ⟨p, q, hA0, hV, rfl, hfz, hnd⟩ := hW
  have hA : DataW.TrodAll enc Tryd.prog W 0 (fun _ => true) true Tryd.f3.params.toList args.toList ds p := hA0
  rw [Tryd.params3] at hA hval
  obtain ⟨v0, vs0, d0, ds0, p0, q0, hargs, rfl, rfl, h0, r0⟩ := trodAll_cons hA
  obtain ⟨rfl, rfl, rfl⟩ := trodAll_nil r0
  obtain rfl : args = #[v0] := by cases args; simp_all
  obtain ⟨rfl, rfl⟩ := trodVars_none hV
  have lt0 : ∀ x ∈ p0, x.block < W.heap.size := by obtain ⟨m, hm⟩ := h0; exact DataW.trod_lt m _ _ _ hm
  obtain ⟨m0, l0, k0, e0⟩ := okWide_slice Tryd.underlying22 (hval 0 22 v0 rfl rfl)
  subst e0
  obtain ⟨x0, a0, b0, c0⟩ : ∃ l : List Int, DR (Rw0 W) W (slB l) (.slice m0 l0 k0) ∧ (∀ n ∈ l, u8r n) ∧ l.length < 9223372036854775808 := by
    obtain ⟨fuel, hf⟩ := h0
    exact op_bytes Tryd.underlying22 Tryd.underlying5 (by kernel_rfl) hf
  refine (FF.below F231 (us := [slB x0]) (b := true) ⟨x0, ?_, ⟨⟨b0, c0⟩⟩, rfl⟩ (goodFnDeskDo hL) ⟨rfl, fun j hj => ?_⟩).mono fun e W' ⟨he, bel⟩ => ?_
  · repeat' ((conv => whnf); first | with_reducible exact True.intro | exact vW | with_reducible refine And.intro ?_ ?_)
  · match j, hj with
    | 0, _ => exact .data a0
  subst he
  exact ⟨_, rfl, _, _, _, [], _, [], hW', trodAll_mk1 (shut_bool Tryd.underlying4 _), (trodAll_cons_mk (Below.trod laidOut (by kernel_rfl) (of_decide_eq_true (by kernel_rfl)) h0 bel lt0) trodAll_mk0), rfl, bel.frame _, fun h => by cases h⟩
theorem FnDeskDo_holds : Rows.FnDeskDoSaid :=
  OpenClaim.holds_of_wide 3 Tryd.f3 rfl rfl rfl rfl rfl rfl rfl ⟨rfl, rfl, rfl, rfl, rfl⟩ rfl rfl rfl rfl rfl (by kernel_rfl) Tryd.func3 (by kernel_rfl)
    (of_decide_eq_true (by kernel_rfl)) (by unfold Func.isWrapper; first | (rw [if_pos (by decide +kernel)]; kernel_rfl) | (rw [if_neg (by decide +kernel)]; exact ⟨rfl, rfl⟩))
    (fun os started H enc _ => liftedFnDeskDo os started H enc)
end Go.Proofs.YtjefkdhecccfpaaDoor.Vc
end
