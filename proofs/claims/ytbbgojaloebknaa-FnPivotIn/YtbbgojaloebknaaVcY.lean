/- Part Y: houses. -/
import Derived.Test.YtbbgojaloebknaaVcX
namespace Go.Proofs.Ytbbgojaloebknaa.Vc
open Go.Proofs
set_option maxRecDepth 10000
set_option maxHeartbeats 4000000
def C64 : List AV → (AV → Prop) → Prop := con (X := Nat) (fun x => [.int .u64 x]) (fun x => x < 64) fun x K => K (.int .i64 (heads x))
theorem F64 : FF 64 C64 := by
  refine fitE [] (by simp) Try.f64 ⟨rfl, by decide +kernel, by decide +kernel⟩ (fun _ _ _ hk h => hk _ h) ?_
  intro x K h1 h
  refine ⟨Nat.le_of_ble_eq_true rfl, ?_⟩
  repeat' ((conv => whnf); first | with_reducible refine Wr.wr ?_ | refine vA ?_ | with_reducible first | refine vS ?_ | refine vR ?_ | refine vB ?_ | refine br_nt ?_ | refine br_tt ?_ | refine br_ff ?_ | refine vP ?_ | refine vQ ?_ | refine vT ?_ | refine vF ?_ | refine br_and ?_ | refine br_or ?_ | refine br_d (fun _ => ?_) fun _ => ?_ | refine vM (fun _ => ?_) fun _ => ?_)
  refine Eq.mp (congrArg (fun z => K (AV.int IntKind.i64 z)) ?_) h
  clear h K
  revert x
  decide +kernel
def C58 := C64
theorem F58 : FF 58 C58 := by
  refine fitE [(64, C64)] (by simp only [List.mem_cons, List.not_mem_nil, or_false]; rintro _ rfl <;> first | exact F64) Try.f58 ⟨rfl, by decide +kernel, by decide +kernel⟩ (fun _ _ _ hk h => hk _ h) ?_
  intro x K h1 h
  refine ⟨Nat.le_of_ble_eq_true rfl, ?_⟩
  repeat' ((conv => whnf); first | refine vA ?_ | with_reducible first | refine vS ?_ | refine vR ?_ | refine vB ?_ | refine br_nt ?_ | refine br_tt ?_ | refine br_ff ?_ | refine vP ?_ | refine vQ ?_ | refine vT ?_ | refine vF ?_ | refine br_and ?_ | refine br_or ?_ | refine br_d (fun _ => ?_) fun _ => ?_ | refine vM (fun _ => ?_) fun _ => ?_)
  refine ⟨x, ?_, ⟨h1⟩, ?_⟩
  · repeat' ((conv => whnf); first | with_reducible exact True.intro | exact vW | with_reducible refine And.intro ?_ ?_)
  repeat' ((conv => whnf); first | refine vA ?_ | with_reducible first | refine vS ?_ | refine vR ?_ | refine vB ?_ | refine br_nt ?_ | refine br_tt ?_ | refine br_ff ?_ | refine vP ?_ | refine vQ ?_ | refine vT ?_ | refine vF ?_ | refine br_and ?_ | refine br_or ?_ | refine br_d (fun _ => ?_) fun _ => ?_ | refine vM (fun _ => ?_) fun _ => ?_)
  exact h
def C50 : List AV → (AV → Prop) → Prop := con (X := Int) (fun c => [.int .i64 c]) (fun c => 0 ≤ c ∧ c < 64) fun c K => K (.int .i64 (heads c.toNat))
theorem F50 : FF 50 C50 := by
  refine fitE [(58, C58)] (by simp only [List.mem_cons, List.not_mem_nil, or_false]; rintro _ rfl <;> first | exact F58) Try.f50 ⟨rfl, by decide +kernel, by decide +kernel⟩ (fun _ _ _ hk h => hk _ h) ?_
  rintro x K ⟨h1, h2⟩ h
  refine ⟨Nat.le_of_ble_eq_true rfl, ?_⟩
  repeat' ((conv => whnf); first | with_reducible refine Wr.ex (wu64 (by omega) (by omega)) ?_ | refine vA ?_ | with_reducible first | refine vS ?_ | refine vR ?_ | refine vB ?_ | refine br_nt ?_ | refine br_tt ?_ | refine br_ff ?_ | refine vP ?_ | refine vQ ?_ | refine vT ?_ | refine vF ?_ | refine br_and ?_ | refine br_or ?_ | refine br_d (fun _ => ?_) fun _ => ?_ | refine vM (fun _ => ?_) fun _ => ?_)
  refine ⟨x.toNat, ?_, ⟨by show x.toNat < 64; omega⟩, ?_⟩
  · repeat' ((conv => whnf); first | with_reducible exact True.intro | exact vW | with_reducible refine And.intro ?_ ?_)
  repeat' ((conv => whnf); first | refine vA ?_ | with_reducible first | refine vS ?_ | refine vR ?_ | refine vB ?_ | refine br_nt ?_ | refine br_tt ?_ | refine br_ff ?_ | refine vP ?_ | refine vQ ?_ | refine vT ?_ | refine vF ?_ | refine br_and ?_ | refine br_or ?_ | refine br_d (fun _ => ?_) fun _ => ?_ | refine vM (fun _ => ?_) fun _ => ?_)
  exact h
/-! ### Houses -/
structure House where
  p : Int
  bs : List Int
def House.i64 (h : House) : Prop := i64r h.p ∧ ∀ b ∈ h.bs, i64r b
def enH (h : House) : AV := .agg [.int .i64 h.p, slI h.bs]
abbrev houseOk (h : House) : Prop := people h.p ∧ h.bs.length ≤ 4 ∧ ∀ b ∈ h.bs, crowd h.p b ∧ b ≠ 0
theorem getD_mem' {α : Type} {l : List α} {i : Nat} {d : α} (h : i < l.length) : l.getD i d ∈ l := by
  rw [List.getD_eq_getElem?_getD, List.getElem?_eq_getElem h]
  exact List.getElem_mem h
theorem all_of_getD {α : Type} {l : List α} {d : α} {p : α → Prop} (h : ∀ i, i < l.length → p (l.getD i d)) : ∀ b ∈ l, p b := by
  intro b hb
  obtain ⟨i, hi, rfl⟩ := List.mem_iff_getElem.1 hb
  have := h i hi
  rwa [List.getD_eq_getElem?_getD, List.getElem?_eq_getElem hi] at this
def C57 : List AV → (AV → Prop) → Prop := con (X := House) (fun h => [enH h]) (fun h => h.i64 ∧ h.bs.length < 9223372036854775808) fun h K => K (.bool (decide (houseOk h)))
theorem F57 : FF 57 C57 := by
  refine fitE [(54, C54), (61, C61)] (by simp only [List.mem_cons, List.not_mem_nil, or_false]; rintro _ (rfl | rfl) <;> first | exact F54 | exact F61) Try.f57 ⟨rfl, by decide +kernel, by decide +kernel⟩ (fun _ _ _ hk h => hk _ h) ?_
  rintro ⟨p, bs⟩ K ⟨⟨h1, h2⟩, h3⟩ h
  refine ⟨Nat.le_of_ble_eq_true rfl, ?_⟩
  dsimp only at h h1 h2 h3 ⊢
  replace h : K (.bool (decide (people p ∧ bs.length ≤ 4 ∧ ∀ b ∈ bs, crowd p b ∧ b ≠ 0))) := h
  repeat' ((conv => whnf); first | refine vA ?_ | with_reducible first | refine vS ?_ | refine vR ?_ | refine vB ?_ | refine br_nt ?_ | refine br_tt ?_ | refine br_ff ?_ | refine vP ?_ | refine vQ ?_ | refine vT ?_ | refine vF ?_ | refine br_and ?_ | refine br_or ?_ | refine br_d (fun _ => ?_) fun _ => ?_ | refine vM (fun _ => ?_) fun _ => ?_)
  refine Lp.mk ⟨Nat, fun i => [(1, .ptr 0 0), (2, .bool false), (6, slI bs), (7, .int .i64 bs.length), (8, .int .i64 i)], fun _ => [.box [.int .i64 p, slI bs]], fun i => i ≤ bs.length ∧ ∀ j, j < i → crowd p (bs.getD j 0) ∧ bs.getD j 0 ≠ 0, fun i => bs.length - i, ⟨0, ⟨Nat.zero_le _, fun j hj => absurd hj (Nat.not_lt_zero _)⟩, ⟨⟨[some 0], [], rfl, rfl, ?_, ?_⟩⟩⟩, ?_⟩
  · repeat' ((conv => whnf); first | with_reducible exact True.intro | exact vW | with_reducible refine And.intro ?_ ?_)
  · repeat' ((conv => whnf); first | with_reducible exact True.intro | exact vW | with_reducible refine And.intro ?_ ?_)
  rintro i ⟨i1, i2⟩
  dsimp only
  repeat' ((conv => whnf); first | refine vA ?_ | with_reducible first | refine vS ?_ | refine vR ?_ | refine vB ?_ | refine br_nt ?_ | refine br_tt ?_ | refine br_ff ?_ | refine vP ?_ | refine vQ ?_ | refine vT ?_ | refine vF ?_ | refine br_and ?_ | refine br_or ?_ | refine br_d (fun _ => ?_) fun _ => ?_ | refine vM (fun _ => ?_) fun _ => ?_)
  · refine ⟨(p, bs.getD i 0), ?_, ⟨h1, h2 _ (getD_mem' (by omega))⟩, ?_⟩
    · repeat' ((conv => whnf); first | with_reducible exact True.intro | exact vW | with_reducible refine And.intro ?_ ?_)
    dsimp only
    repeat' ((conv => whnf); first | refine vA ?_ | with_reducible first | refine vS ?_ | refine vR ?_ | refine vB ?_ | refine br_nt ?_ | refine br_tt ?_ | refine br_ff ?_ | refine vP ?_ | refine vQ ?_ | refine vT ?_ | refine vF ?_ | refine br_and ?_ | refine br_or ?_ | refine br_d (fun _ => ?_) fun _ => ?_ | refine vM (fun _ => ?_) fun _ => ?_)
    · rename_i e
      have e : bs.getD i 0 = 0 := e
      exact yesF h fun q => (q.2.2 _ (getD_mem' (by omega))).2 e
    · rename_i e
      have e : ¬ bs.getD i 0 = 0 := e
      refine ⟨i + 1, ⟨by omega, fun j hj => ?_⟩, by omega, ⟨⟨[some 0], [], rfl, rfl, ?_, ?_⟩⟩⟩
      · by_cases hji : j = i
        · subst hji
          exact ⟨by assumption, e⟩
        · exact i2 j (by omega)
      · repeat' ((conv => whnf); first | with_reducible exact True.intro | exact vW | with_reducible refine And.intro ?_ ?_)
      · repeat' ((conv => whnf); first | with_reducible exact True.intro | exact vW | with_reducible refine And.intro ?_ ?_)
    · rename_i e
      exact yesF h fun q => e (q.2.2 _ (getD_mem' (by omega))).1
  · refine ⟨p, ?_, ⟨h1⟩, ?_⟩
    · repeat' ((conv => whnf); first | with_reducible exact True.intro | exact vW | with_reducible refine And.intro ?_ ?_)
    have i3 : ∀ b ∈ bs, crowd p b ∧ b ≠ 0 := all_of_getD fun j hj => i2 j (by omega)
    repeat' ((conv => whnf); first | refine vA ?_ | with_reducible first | refine vS ?_ | refine vR ?_ | refine vB ?_ | refine br_nt ?_ | refine br_tt ?_ | refine br_ff ?_ | refine vP ?_ | refine vQ ?_ | refine vT ?_ | refine vF ?_ | refine br_and ?_ | refine br_or ?_ | refine br_d (fun _ => ?_) fun _ => ?_ | refine vM (fun _ => ?_) fun _ => ?_)
    · exact yesD h ⟨fun q => by have := q.2.1; omega, fun q => ⟨by assumption, by omega, i3⟩⟩
    · rename_i e
      exact yesF h fun q => e q.1
def C55 := C57
theorem F55 : FF 55 C55 := by
  refine fitE [(62, C62), (35, C35)] (by simp only [List.mem_cons, List.not_mem_nil, or_false]; rintro _ (rfl | rfl) <;> first | exact F62 | exact F35) Try.f55 ⟨rfl, by decide +kernel, by decide +kernel⟩ (fun _ _ _ hk h => hk _ h) ?_
  rintro ⟨p, bs⟩ K ⟨⟨h1, h2⟩, h3⟩ h
  refine ⟨Nat.le_of_ble_eq_true rfl, ?_⟩
  dsimp only at h h1 h2 h3 ⊢
  replace h : K (.bool (decide (people p ∧ bs.length ≤ 4 ∧ ∀ b ∈ bs, crowd p b ∧ b ≠ 0))) := h
  repeat' ((conv => whnf); first | refine vA ?_ | with_reducible first | refine vS ?_ | refine vR ?_ | refine vB ?_ | refine br_nt ?_ | refine br_tt ?_ | refine br_ff ?_ | refine vP ?_ | refine vQ ?_ | refine vT ?_ | refine vF ?_ | refine br_and ?_ | refine br_or ?_ | refine br_d (fun _ => ?_) fun _ => ?_ | refine vM (fun _ => ?_) fun _ => ?_)
  refine Lp.mk ⟨Nat, fun i => [(1, .ptr 0 0), (2, .bool false), (3, .int .i64 i)], fun _ => [.box [.int .i64 p, slI bs]], fun i => i ≤ bs.length ∧ ∀ j, j < i → crowd p (bs.getD j 0) ∧ bs.getD j 0 ≠ 0, fun i => bs.length - i, ⟨0, ⟨Nat.zero_le _, fun j hj => absurd hj (Nat.not_lt_zero _)⟩, ⟨⟨[some 0], [], rfl, rfl, ?_, ?_⟩⟩⟩, ?_⟩
  · repeat' ((conv => whnf); first | with_reducible exact True.intro | exact vW | with_reducible refine And.intro ?_ ?_)
  · repeat' ((conv => whnf); first | with_reducible exact True.intro | exact vW | with_reducible refine And.intro ?_ ?_)
  rintro i ⟨i1, i2⟩
  dsimp only
  repeat' ((conv => whnf); first | refine vA ?_ | with_reducible first | refine vS ?_ | refine vR ?_ | refine vB ?_ | refine br_nt ?_ | refine br_tt ?_ | refine br_ff ?_ | refine vP ?_ | refine vQ ?_ | refine vT ?_ | refine vF ?_ | refine br_and ?_ | refine br_or ?_ | refine br_d (fun _ => ?_) fun _ => ?_ | refine vM (fun _ => ?_) fun _ => ?_)
  · refine Dr.mk ⟨[0, 1, 2, 3, 4, 5, 6, 7, 8, 9, 10, 11, 12, 13, 14, 15, 16], by decide +kernel, ?_⟩
    repeat' ((conv => whnf); first | refine vA ?_ | with_reducible first | refine vS ?_ | refine vR ?_ | refine vB ?_ | refine br_nt ?_ | refine br_tt ?_ | refine br_ff ?_ | refine vP ?_ | refine vQ ?_ | refine vT ?_ | refine vF ?_ | refine br_and ?_ | refine br_or ?_ | refine br_d (fun _ => ?_) fun _ => ?_ | refine vM (fun _ => ?_) fun _ => ?_)
    refine ⟨(p, bs.getD i 0), ?_, ⟨h1, h2 _ (getD_mem' (by omega))⟩, ?_⟩
    · repeat' ((conv => whnf); first | with_reducible exact True.intro | exact vW | with_reducible refine And.intro ?_ ?_)
    dsimp only
    repeat' ((conv => whnf); first | refine vA ?_ | with_reducible first | refine vS ?_ | refine vR ?_ | refine vB ?_ | refine br_nt ?_ | refine br_tt ?_ | refine br_ff ?_ | refine vP ?_ | refine vQ ?_ | refine vT ?_ | refine vF ?_ | refine br_and ?_ | refine br_or ?_ | refine br_d (fun _ => ?_) fun _ => ?_ | refine vM (fun _ => ?_) fun _ => ?_)
    · rename_i e
      have e : bs.getD i 0 = 0 := e
      exact yesF h fun q => (q.2.2 _ (getD_mem' (by omega))).2 e
    · rename_i e
      have e : ¬ bs.getD i 0 = 0 := e
      refine ⟨i + 1, ⟨by omega, fun j hj => ?_⟩, by omega, ⟨⟨[some 0], [], rfl, rfl, ?_, ?_⟩⟩⟩
      · by_cases hji : j = i
        · subst hji
          exact ⟨by assumption, e⟩
        · exact i2 j (by omega)
      · repeat' ((conv => whnf); first | with_reducible exact True.intro | exact vW | with_reducible refine And.intro ?_ ?_)
      · repeat' ((conv => whnf); first | with_reducible exact True.intro | exact vW | with_reducible refine And.intro ?_ ?_)
    · rename_i e
      exact yesF h fun q => e (q.2.2 _ (getD_mem' (by omega))).1
  · refine ⟨(p, 1, 6), ?_, ⟨trivial⟩, ?_⟩
    · repeat' ((conv => whnf); first | with_reducible exact True.intro | exact vW | with_reducible refine And.intro ?_ ?_)
    have i3 : ∀ b ∈ bs, crowd p b ∧ b ≠ 0 := all_of_getD fun j hj => i2 j (by omega)
    dsimp only
    repeat' ((conv => whnf); first | refine vA ?_ | with_reducible first | refine vS ?_ | refine vR ?_ | refine vB ?_ | refine br_nt ?_ | refine br_tt ?_ | refine br_ff ?_ | refine vP ?_ | refine vQ ?_ | refine vT ?_ | refine vF ?_ | refine br_and ?_ | refine br_or ?_ | refine br_d (fun _ => ?_) fun _ => ?_ | refine vM (fun _ => ?_) fun _ => ?_)
    · exact yesD h ⟨fun q => by have := q.2.1; omega, fun q => ⟨by assumption, by omega, i3⟩⟩
    · rename_i e
      exact yesF h fun q => e q.1
/-! ### Terms -/
def stepP (bs : List Int) (m : Mark) (k : Nat) : Option Nat :=
  if m.kind = 0 ∧ 0 ≤ m.at_ ∧ m.at_ < bs.length ∧ 1 ≤ m.need ∧ m.need ≤ heads (bs.getD m.at_.toNat 0).toNat then some (k + 1)
  else if (m.kind = 1 ∨ m.kind = 2) ∧ m.at_ = 0 ∧ m.need = 0 ∧ 2 ≤ k then some (k - 1) else none
def walkP (h : List Int) : List Mark → Nat → Option Nat
  | [], k => some k
  | m :: r, k => (stepP h m k).bind (walkP h r)
abbrev termOk (h : House) (t : List Mark) : Prop := houseOk h ∧ t.length ≤ 9 ∧ walkP h.bs t 0 = some 1
theorem walkP_app (h : List Int) : ∀ (l m : List Mark) (k : Nat), walkP h (l ++ m) k = (walkP h l k).bind (walkP h m)
  | [], m, k => rfl
  | x :: l, m, k => by
    simp only [List.cons_append, walkP]
    cases stepP h x k with
    | none => rfl
    | some j => exact walkP_app h l m j
theorem take_succ' {α : Type} {l : List α} {i : Nat} (d : α) (h : i < l.length) : l.take (i + 1) = l.take i ++ [l.getD i d] := by
  rw [List.take_add_one, List.getD_eq_getElem?_getD, List.getElem?_eq_getElem h]
  rfl
theorem walkP_take {h : List Int} {t : List Mark} {i k : Nat} (hi : i < t.length) (hk : walkP h (t.take i) 0 = some k) : walkP h (t.take (i + 1)) 0 = stepP h (t.getD i default) k := by
  rw [take_succ' default hi, walkP_app, hk]
  simp only [Option.bind_some, walkP]
  cases stepP h (t.getD i default) k <;> rfl
theorem walkP_none {h : List Int} {t : List Mark} {i : Nat} (hk : walkP h (t.take i) 0 = none) : walkP h t 0 = none := by
  rw [← List.take_append_drop i t, walkP_app, hk]
  rfl
theorem walkP_le (h : List Int) : ∀ (l : List Mark) (k j : Nat), walkP h l k = some j → j ≤ k + l.length
  | [], k, j, e => by injection e with e; simp [e]
  | m :: l, k, j, e => by
    simp only [walkP] at e
    cases e1 : stepP h m k with
    | none => rw [e1] at e; cases e
    | some i =>
      rw [e1] at e
      have := walkP_le h l i j e
      have : i ≤ k + 1 := by
        unfold stepP at e1
        split at e1
        · injection e1 with e1; omega
        · split at e1
          · injection e1 with e1; omega
          · cases e1
      simp only [List.length_cons]
      omega
def Mark.i64 (m : Mark) : Prop := i64r m.kind ∧ i64r m.at_ ∧ i64r m.need
def termI (h : House) (t : List Mark) : Prop := h.i64 ∧ h.bs.length < 9223372036854775808 ∧ (∀ m ∈ t, m.i64) ∧ t.length < 9223372036854775808
def C38 : List AV → (AV → Prop) → Prop := con (X := House × List Mark) (fun x => [enH x.1, slM x.2]) (fun x => termI x.1 x.2) fun x K => K (.bool (decide (termOk x.1 x.2)))
theorem F38 : FF 38 C38 := by
  refine fitE [(57, C57), (50, C50)] (by simp only [List.mem_cons, List.not_mem_nil, or_false]; rintro _ (rfl | rfl) <;> first | exact F57 | exact F50) Try.f38 ⟨rfl, by decide +kernel, by decide +kernel⟩ (fun _ _ _ hk h => hk _ h) ?_
  rintro ⟨⟨p, bs⟩, t⟩ K ⟨h1, h2, h3, h4⟩ h
  refine ⟨Nat.le_of_ble_eq_true rfl, ?_⟩
  dsimp only at h h1 h2 h3 h4 ⊢
  repeat' ((conv => whnf); first | refine vA ?_ | with_reducible first | refine vS ?_ | refine vR ?_ | refine vB ?_ | refine br_nt ?_ | refine br_tt ?_ | refine br_ff ?_ | refine vP ?_ | refine vQ ?_ | refine vT ?_ | refine vF ?_ | refine br_and ?_ | refine br_or ?_ | refine br_d (fun _ => ?_) fun _ => ?_ | refine vM (fun _ => ?_) fun _ => ?_)
  refine ⟨⟨p, bs⟩, ?_, ⟨h1, h2⟩, ?_⟩
  · repeat' ((conv => whnf); first | with_reducible exact True.intro | exact vW | with_reducible refine And.intro ?_ ?_)
  repeat' ((conv => whnf); first | refine vA ?_ | with_reducible first | refine vS ?_ | refine vR ?_ | refine vB ?_ | refine br_nt ?_ | refine br_tt ?_ | refine br_ff ?_ | refine vP ?_ | refine vQ ?_ | refine vT ?_ | refine vF ?_ | refine br_and ?_ | refine br_or ?_ | refine br_d (fun _ => ?_) fun _ => ?_ | refine vM (fun _ => ?_) fun _ => ?_)
  · rename_i e
    exact yesF h fun q => by
      have e0 : t.length = 0 := by omega
      have : t = [] := List.eq_nil_of_length_eq_zero e0
      subst this
      have := q.2.2
      simp [walkP] at this
  · exact yesF h fun q => by have := q.2.1; omega
  · rename_i hO _ _
    refine Lp.mk ⟨Nat × Nat, fun x => [(2, .ptr 0 0), (4, .bool false), (5, .int .i64 x.2), (21, slM t), (22, .int .i64 t.length), (23, .int .i64 x.1)], fun _ => [.box [.int .i64 p, slI bs]], fun x => x.1 ≤ t.length ∧ walkP bs (t.take x.1) 0 = some x.2, fun x => t.length - x.1, ⟨(0, 0), ⟨Nat.zero_le _, rfl⟩, ⟨⟨[some 0], [], rfl, rfl, ?_, ?_⟩⟩⟩, ?_⟩
    · repeat' ((conv => whnf); first | with_reducible exact True.intro | exact vW | with_reducible refine And.intro ?_ ?_)
    · repeat' ((conv => whnf); first | with_reducible exact True.intro | exact vW | with_reducible refine And.intro ?_ ?_)
    rintro ⟨i, k⟩ ⟨i1, i2⟩
    dsimp only at i1 i2 ⊢
    have kle : k ≤ 9 := by
      have := walkP_le bs _ _ _ i2
      simp only [List.length_take] at this
      omega
    have bad : i < t.length → stepP bs (t.getD i default) k = none → ¬ termOk ⟨p, bs⟩ t := fun hi e q => by
      have := walkP_none (h := bs) (t := t) (i := i + 1) (by rw [walkP_take hi i2, e])
      rw [q.2.2] at this
      cases this
    have good : ∀ k', i < t.length → stepP bs (t.getD i default) k = some k' → walkP bs (t.take (i + 1)) 0 = some k' := fun k' hi e => by rw [walkP_take hi i2, e]
    repeat' ((conv => whnf); first | refine vA ?_ | with_reducible first | refine vS ?_ | refine vR ?_ | refine vB ?_ | refine br_nt ?_ | refine br_tt ?_ | refine br_ff ?_ | refine vP ?_ | refine vQ ?_ | refine vT ?_ | refine vF ?_ | refine br_and ?_ | refine br_or ?_ | refine br_d (fun _ => ?_) fun _ => ?_ | refine vM (fun _ => ?_) fun _ => ?_)
    · refine Dr.mk ⟨[0, 1, 2, 3, 4, 5, 6, 7, 8, 9, 10, 11, 12, 13, 14, 15, 16, 17, 18, 19, 20, 21, 22, 23, 24, 25, 26, 27], by decide +kernel, ?_⟩
      repeat' ((conv => whnf); first | refine vA ?_ | with_reducible first | refine vS ?_ | refine vR ?_ | refine vB ?_ | refine br_nt ?_ | refine br_tt ?_ | refine br_ff ?_ | refine vP ?_ | refine vQ ?_ | refine vT ?_ | refine vF ?_ | refine br_and ?_ | refine br_or ?_ | refine br_d (fun _ => ?_) fun _ => ?_ | refine vM (fun _ => ?_) fun _ => ?_)
      all_goals try (refine yesF h (bad (by omega) ?_); simp only [Int.toNat_natCast] at *; unfold stepP; rw [if_neg (by omega), if_neg (by omega)]; done)
      have g1 : ¬ (t.getD i default).at_ < 0 := by assumption
      have g2 : ¬ (t.getD i default).at_ ≥ bs.length := by assumption
      have g3 : ¬ (t.getD i default).need < 1 := by assumption
      have g4 : (t.getD i default).kind = 0 := by assumption
      have hb : (t.getD i default).at_.toNat < bs.length := by omega
      have hc := (hO.2.2 _ (getD_mem' (d := 0) hb)).1
      have hp := pw_le hO.1
      refine ⟨bs.getD (t.getD i default).at_.toNat 0, ?_, ⟨⟨hc.2.1, Int.lt_of_lt_of_le hc.2.2 hp.2⟩⟩, ?_⟩
      · repeat' ((conv => whnf); first | with_reducible exact True.intro | exact vW | with_reducible refine And.intro ?_ ?_)
      repeat' ((conv => whnf); first | refine vA ?_ | with_reducible first | refine vS ?_ | refine vR ?_ | refine vB ?_ | refine br_nt ?_ | refine br_tt ?_ | refine br_ff ?_ | refine vP ?_ | refine vQ ?_ | refine vT ?_ | refine vF ?_ | refine br_and ?_ | refine br_or ?_ | refine br_d (fun _ => ?_) fun _ => ?_ | refine vM (fun _ => ?_) fun _ => ?_)
      · refine yesF h (bad (by omega) ?_)
        rename_i e
        replace e : (t.getD i default).need > heads (bs.getD (t.getD i default).at_.toNat 0).toNat := e
        unfold stepP
        rw [if_neg (by omega), if_neg (by omega)]
      · rename_i e
        replace e : ¬ (t.getD i default).need > heads (bs.getD (t.getD i default).at_.toNat 0).toNat := e
        refine ⟨(i + 1, k + 1), ⟨by omega, good (k + 1) (by omega) (by unfold stepP; rw [if_pos (by omega)])⟩, by show t.length - (i + 1) < t.length - i; omega, ⟨⟨[some 0], [], rfl, rfl, ?_, ?_⟩⟩⟩
        · repeat' ((conv => whnf); first | with_reducible exact True.intro | exact vW | with_reducible refine And.intro ?_ ?_)
        · repeat' ((conv => whnf); first | with_reducible exact True.intro | exact vW | with_reducible refine And.intro ?_ ?_)
    all_goals try (refine yesF h (bad (by omega) ?_); simp only [Int.toNat_natCast] at *; unfold stepP; rw [if_neg (by omega), if_neg (by omega)]; done)
    · refine ⟨(i + 1, k - 1), ⟨by omega, good (k - 1) (by omega) (by simp only [Int.toNat_natCast] at *; unfold stepP; rw [if_neg (by omega), if_pos (by omega)])⟩, by show t.length - (i + 1) < t.length - i; omega, ⟨⟨[some 0], [], rfl, rfl, ?_, ?_⟩⟩⟩
      · repeat' ((conv => whnf); first | with_reducible exact True.intro | exact vW | with_reducible refine And.intro ?_ ?_)
      · repeat' ((conv => whnf); first | with_reducible exact True.intro | exact vW | with_reducible refine And.intro ?_ ?_)
    · refine ⟨(i + 1, k - 1), ⟨by omega, good (k - 1) (by omega) (by simp only [Int.toNat_natCast] at *; unfold stepP; rw [if_neg (by omega), if_pos (by omega)])⟩, by show t.length - (i + 1) < t.length - i; omega, ⟨⟨[some 0], [], rfl, rfl, ?_, ?_⟩⟩⟩
      · repeat' ((conv => whnf); first | with_reducible exact True.intro | exact vW | with_reducible refine And.intro ?_ ?_)
      · repeat' ((conv => whnf); first | with_reducible exact True.intro | exact vW | with_reducible refine And.intro ?_ ?_)
    · have e : walkP bs t 0 = some k := by rw [List.take_of_length_le (by omega)] at i2; exact i2
      refine yesD h ⟨fun q => ?_, fun q => ⟨hO, by show t.length ≤ 9; omega, by show walkP bs t 0 = some 1; rw [e, show k = 1 by omega]⟩⟩
      have := q.2.2
      rw [e] at this
      injection this with this
      omega
  · rename_i e
    exact yesF h fun q => e q.1
end Go.Proofs.Ytbbgojaloebknaa.Vc
