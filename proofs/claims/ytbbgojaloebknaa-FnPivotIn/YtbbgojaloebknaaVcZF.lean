/- Part ZF: the laws' copies and comparisons. -/
import Derived.Test.YtbbgojaloebknaaVcZE
namespace Go.Proofs.Ytbbgojaloebknaa.Vc
open Go.Proofs
set_option maxRecDepth 10000
set_option maxHeartbeats 4000000
def C10 : List AV → (AV → Prop) → Prop := con (X := List Mark × Int) (fun x => [slM x.1, .int .i64 x.2]) (fun x => x.1.length < 9223372036854775808 ∧ 0 ≤ x.2 ∧ x.2 ≤ 9223372036854775807) fun x K => K (.int .i64 (if x.2 - x.1.length < 0 then -1 else x.2 - x.1.length))
theorem F10 : FF 10 C10 := by
  refine fitE [] (by simp) Try.f10 ⟨rfl, by decide +kernel, by decide +kernel⟩ (fun _ _ _ hk h => hk _ h) ?_
  rintro ⟨l, n⟩ K ⟨h1, h2, h3⟩ h
  refine ⟨Nat.le_of_ble_eq_true rfl, ?_⟩
  dsimp only at h1 h2 h3 h ⊢
  repeat' ((conv => whnf); first | refine vA ?_ | with_reducible first | refine vS ?_ | refine vR ?_ | refine vB ?_ | refine br_nt ?_ | refine br_tt ?_ | refine br_ff ?_ | refine vP ?_ | refine vQ ?_ | refine vT ?_ | refine vF ?_ | refine br_and ?_ | refine br_or ?_ | refine br_d (fun _ => ?_) fun _ => ?_ | refine vM (fun _ => ?_) fun _ => ?_)
  · rw [if_pos (by omega)] at h
    exact h
  · rw [if_neg (by omega)] at h
    exact h
def C9 : List AV → (AV → Prop) → Prop := con (X := House × Int) (fun x => [enH x.1, .int .i64 x.2]) (fun x => x.1.bs.length < 9223372036854775808 ∧ 0 ≤ x.2 ∧ x.2 ≤ 9223372036854775807) fun x K => K (.int .i64 (if x.2 - x.1.bs.length < 0 then -1 else x.2 - x.1.bs.length))
theorem F9 : FF 9 C9 := by
  refine fitE [(34, C34)] (by simp only [List.mem_cons, List.not_mem_nil, or_false]; rintro _ rfl <;> first | exact F34) Try.f9 ⟨rfl, by decide +kernel, by decide +kernel⟩ (fun _ _ _ hk h => hk _ h) ?_
  rintro ⟨⟨p, l⟩, n⟩ K ⟨h1, h2, h3⟩ h
  refine ⟨Nat.le_of_ble_eq_true rfl, ?_⟩
  dsimp only at h1 h2 h3 h ⊢
  repeat' ((conv => whnf); first | refine vA ?_ | with_reducible first | refine vS ?_ | refine vR ?_ | refine vB ?_ | refine br_nt ?_ | refine br_tt ?_ | refine br_ff ?_ | refine vP ?_ | refine vQ ?_ | refine vT ?_ | refine vF ?_ | refine br_and ?_ | refine br_or ?_ | refine br_d (fun _ => ?_) fun _ => ?_ | refine vM (fun _ => ?_) fun _ => ?_)
  refine ⟨(l, n), ?_, ⟨h1, h2, h3⟩, ?_⟩
  · repeat' ((conv => whnf); first | with_reducible exact True.intro | exact vW | with_reducible refine And.intro ?_ ?_)
  dsimp only
  by_cases hn : n - l.length < 0
  · rw [if_pos hn] at h ⊢
    repeat' ((conv => whnf); first | refine vA ?_ | with_reducible first | refine vS ?_ | refine vR ?_ | refine vB ?_ | refine br_nt ?_ | refine br_tt ?_ | refine br_ff ?_ | refine vP ?_ | refine vQ ?_ | refine vT ?_ | refine vF ?_ | refine br_and ?_ | refine br_or ?_ | refine br_d (fun _ => ?_) fun _ => ?_ | refine vM (fun _ => ?_) fun _ => ?_)
    exact h
  · rw [if_neg hn] at h ⊢
    repeat' ((conv => whnf); first | refine vA ?_ | with_reducible first | refine vS ?_ | refine vR ?_ | refine vB ?_ | refine br_nt ?_ | refine br_tt ?_ | refine br_ff ?_ | refine vP ?_ | refine vQ ?_ | refine vT ?_ | refine vF ?_ | refine br_and ?_ | refine br_or ?_ | refine br_d (fun _ => ?_) fun _ => ?_ | refine vM (fun _ => ?_) fun _ => ?_)
    exact h
def C37 : List AV → (AV → Prop) → Prop := con (X := Mark) (fun m => [.agg (encM m)]) (fun _ => True) fun m K => K (.agg (encM m))
theorem F37 : FF 37 C37 := by
  refine fitE [] (by simp) Try.f37 ⟨rfl, by decide +kernel, by decide +kernel⟩ (fun _ _ _ hk h => hk _ h) ?_
  rintro m K _ h
  refine ⟨Nat.le_of_ble_eq_true rfl, ?_⟩
  repeat' ((conv => whnf); first | refine vA ?_ | with_reducible first | refine vS ?_ | refine vR ?_ | refine vB ?_ | refine br_nt ?_ | refine br_tt ?_ | refine br_ff ?_ | refine vP ?_ | refine vQ ?_ | refine vT ?_ | refine vF ?_ | refine br_and ?_ | refine br_or ?_ | refine br_d (fun _ => ?_) fun _ => ?_ | refine vM (fun _ => ?_) fun _ => ?_)
  exact h
def cpI (l : List Int) (i : Nat) : Nat → List AV := fun j => if j < i then encI (l.getD j 0) else [.int .i64 0]
theorem cpI_step {l : List Int} {i j : Nat} : cpI l (i + 1) j = setF (cpI l i) i (encI (l.getD i 0)) j := by
  unfold cpI setF
  cases h : Nat.beq j i with
  | true =>
    obtain rfl := Nat.eq_of_beq_eq_true h
    rw [if_pos (by omega)]; rfl
  | false =>
    have := Nat.ne_of_beq_eq_false h
    simp only [cond_false]
    by_cases hj : j < i
    · rw [if_pos hj, if_pos (by omega)]
    · rw [if_neg hj, if_neg (by omega)]
theorem cpI_at {l : List Int} {i : Nat} : cpI l i i = [.int .i64 0] := if_neg (Nat.lt_irrefl _)
theorem cpI_end {l : List Int} {i : Nat} (h : ¬ i < l.length) : (fun j => cpI l i (0 + j)) = fun j => encI (l.getD j 0) := by
  funext j
  unfold cpI
  rw [Nat.zero_add]
  by_cases hj : j < i
  · rw [if_pos hj]
  · rw [if_neg hj, List.getD_eq_getElem?_getD, List.getElem?_eq_none (by omega)]
    rfl
def C14 : List AV → (AV → Prop) → Prop := con (X := List Int) (fun l => [slI l]) (fun l => l.length ≤ 1048576) fun l K => K (slI l)
theorem F14 : FF 14 C14 := by
  refine fitE [] (by simp) Try.f14 ⟨rfl, by decide +kernel, by decide +kernel⟩ (fun _ _ _ hk h => hk _ h) ?_
  rintro l K h1 h
  refine ⟨Nat.le_of_ble_eq_true rfl, ?_⟩
  repeat' ((conv => whnf); first | ((with_reducible refine And.intro (Chk.mk ?_) ?_); (focus (refine ⟨rfl, ?_, ?_, ?_⟩; (focus omega); (focus omega); (focus (show (8 : Int) * _ ≤ _; omega))))) | refine vA ?_ | with_reducible first | refine vS ?_ | refine vR ?_ | refine vB ?_ | refine br_nt ?_ | refine br_tt ?_ | refine br_ff ?_ | refine vP ?_ | refine vQ ?_ | refine vT ?_ | refine vF ?_ | refine br_and ?_ | refine br_or ?_ | refine br_d (fun _ => ?_) fun _ => ?_ | refine vM (fun _ => ?_) fun _ => ?_)
  refine Lp.mk ⟨Nat, fun i => [(0, slI l), (2, .nils), (3, .row 0 1 0 l.length), (4, .int .i64 i)], fun i => [.row 1 l.length (cpI l i)], fun i => i ≤ l.length, fun i => l.length - i, ⟨0, Nat.zero_le _, ⟨⟨[some 0], [], rfl, rfl, ?_, ?_⟩⟩⟩, ?_⟩
  · repeat' ((conv => whnf); first | with_reducible exact True.intro | exact vW | with_reducible refine And.intro ?_ ?_)
  · repeat' ((conv => whnf); first | with_reducible exact True.intro | exact vW | with_reducible refine And.intro ?_ ?_)
  intro i i1
  dsimp only
  repeat' ((conv => whnf); first | refine vA ?_ | with_reducible first | refine vS ?_ | refine vR ?_ | refine vB ?_ | refine br_nt ?_ | refine br_tt ?_ | refine br_ff ?_ | refine vP ?_ | refine vQ ?_ | refine vT ?_ | refine vF ?_ | refine br_and ?_ | refine br_or ?_ | refine br_d (fun _ => ?_) fun _ => ?_ | refine vM (fun _ => ?_) fun _ => ?_)
  · refine ⟨i + 1, by show i + 1 ≤ l.length; omega, by show l.length - (i + 1) < l.length - i; omega, ⟨⟨[some 0], [], rfl, rfl, ?_, ?_⟩⟩⟩
    · repeat' ((conv => whnf); first | with_reducible exact True.intro | exact vW | with_reducible refine And.intro ?_ ?_)
    · repeat' ((conv => whnf); first | with_reducible exact True.intro | exact vW | with_reducible refine And.intro ?_ ?_)
      exact Chk.mk ⟨rfl, fun j _ => by rw [cpI_step, Nat.zero_add, Int.toNat_natCast, cpI_at]; rfl⟩
  · rw [cpI_end (by omega)]
    exact h
def cpM (l : List Mark) (i : Nat) : Nat → List AV := fun j => if j < i then encM (l.getD j default) else [.int .i64 0, .int .i64 0, .int .i64 0]
theorem cpM_step {l : List Mark} {i j : Nat} : cpM l (i + 1) j = setF (cpM l i) i (encM (l.getD i default)) j := by
  unfold cpM setF
  cases h : Nat.beq j i with
  | true =>
    obtain rfl := Nat.eq_of_beq_eq_true h
    rw [if_pos (by omega)]; rfl
  | false =>
    have := Nat.ne_of_beq_eq_false h
    simp only [cond_false]
    by_cases hj : j < i
    · rw [if_pos hj, if_pos (by omega)]
    · rw [if_neg hj, if_neg (by omega)]
theorem cpM_at {l : List Mark} {i : Nat} : cpM l i i = [.int .i64 0, .int .i64 0, .int .i64 0] := if_neg (Nat.lt_irrefl _)
theorem cpM_end {l : List Mark} {i : Nat} (h : ¬ i < l.length) : (fun j => cpM l i (0 + j)) = fun j => encM (l.getD j default) := by
  funext j
  unfold cpM
  rw [Nat.zero_add]
  by_cases hj : j < i
  · rw [if_pos hj]
  · rw [if_neg hj, List.getD_eq_getElem?_getD, List.getElem?_eq_none (by omega)]
    rfl
def C13 : List AV → (AV → Prop) → Prop := con (X := List Mark) (fun l => [slM l]) (fun l => l.length ≤ 1048576) fun l K => K (slM l)
theorem F13 : FF 13 C13 := by
  refine fitE [(37, C37)] (by simp only [List.mem_cons, List.not_mem_nil, or_false]; rintro _ rfl <;> first | exact F37) Try.f13 ⟨rfl, by decide +kernel, by decide +kernel⟩ (fun _ _ _ hk h => hk _ h) ?_
  rintro l K h1 h
  refine ⟨Nat.le_of_ble_eq_true rfl, ?_⟩
  repeat' ((conv => whnf); first | ((with_reducible refine And.intro (Chk.mk ?_) ?_); (focus (refine ⟨rfl, ?_, ?_, ?_⟩; (focus omega); (focus omega); (focus (show (24 : Int) * _ ≤ _; omega))))) | refine vA ?_ | with_reducible first | refine vS ?_ | refine vR ?_ | refine vB ?_ | refine br_nt ?_ | refine br_tt ?_ | refine br_ff ?_ | refine vP ?_ | refine vQ ?_ | refine vT ?_ | refine vF ?_ | refine br_and ?_ | refine br_or ?_ | refine br_d (fun _ => ?_) fun _ => ?_ | refine vM (fun _ => ?_) fun _ => ?_)
  refine Lp.mk ⟨Nat, fun i => [(0, slM l), (2, .nils), (3, .row 0 3 0 l.length), (4, .int .i64 i)], fun i => [.row 3 l.length (cpM l i)], fun i => i ≤ l.length, fun i => l.length - i, ⟨0, Nat.zero_le _, ⟨⟨[some 0], [], rfl, rfl, ?_, ?_⟩⟩⟩, ?_⟩
  · repeat' ((conv => whnf); first | with_reducible exact True.intro | exact vW | with_reducible refine And.intro ?_ ?_)
  · repeat' ((conv => whnf); first | with_reducible exact True.intro | exact vW | with_reducible refine And.intro ?_ ?_)
  intro i i1
  dsimp only
  repeat' ((conv => whnf); first | refine vA ?_ | with_reducible first | refine vS ?_ | refine vR ?_ | refine vB ?_ | refine br_nt ?_ | refine br_tt ?_ | refine br_ff ?_ | refine vP ?_ | refine vQ ?_ | refine vT ?_ | refine vF ?_ | refine br_and ?_ | refine br_or ?_ | refine br_d (fun _ => ?_) fun _ => ?_ | refine vM (fun _ => ?_) fun _ => ?_)
  · refine ⟨l.getD i default, ?_, ⟨trivial⟩, ?_⟩
    · repeat' ((conv => whnf); first | with_reducible exact True.intro | exact vW | with_reducible refine And.intro ?_ ?_)
    repeat' ((conv => whnf); first | refine vA ?_ | with_reducible first | refine vS ?_ | refine vR ?_ | refine vB ?_ | refine br_nt ?_ | refine br_tt ?_ | refine br_ff ?_ | refine vP ?_ | refine vQ ?_ | refine vT ?_ | refine vF ?_ | refine br_and ?_ | refine br_or ?_ | refine br_d (fun _ => ?_) fun _ => ?_ | refine vM (fun _ => ?_) fun _ => ?_)
    refine ⟨i + 1, by show i + 1 ≤ l.length; omega, by show l.length - (i + 1) < l.length - i; omega, ⟨⟨[some 0], [], rfl, rfl, ?_, ?_⟩⟩⟩
    · repeat' ((conv => whnf); first | with_reducible exact True.intro | exact vW | with_reducible refine And.intro ?_ ?_)
    · repeat' ((conv => whnf); first | with_reducible exact True.intro | exact vW | with_reducible refine And.intro ?_ ?_)
      exact Chk.mk ⟨rfl, fun j _ => by rw [cpM_step, Nat.zero_add, Int.toNat_natCast, cpM_at]; rfl⟩
  · rw [cpM_end (by omega)]
    exact h
def C12 : List AV → (AV → Prop) → Prop := con (X := House) (fun h => [enH h]) (fun h => h.bs.length ≤ 1048576) fun h K => K (enH h)
theorem F12 : FF 12 C12 := by
  refine fitE [(14, C14)] (by simp only [List.mem_cons, List.not_mem_nil, or_false]; rintro _ rfl <;> first | exact F14) Try.f12 ⟨rfl, by decide +kernel, by decide +kernel⟩ (fun _ _ _ hk h => hk _ h) ?_
  rintro ⟨p, bs⟩ K h1 h
  refine ⟨Nat.le_of_ble_eq_true rfl, ?_⟩
  dsimp only at h1 h ⊢
  repeat' ((conv => whnf); first | refine vA ?_ | with_reducible first | refine vS ?_ | refine vR ?_ | refine vB ?_ | refine br_nt ?_ | refine br_tt ?_ | refine br_ff ?_ | refine vP ?_ | refine vQ ?_ | refine vT ?_ | refine vF ?_ | refine br_and ?_ | refine br_or ?_ | refine br_d (fun _ => ?_) fun _ => ?_ | refine vM (fun _ => ?_) fun _ => ?_)
  refine ⟨bs, ?_, ⟨h1⟩, ?_⟩
  · repeat' ((conv => whnf); first | with_reducible exact True.intro | exact vW | with_reducible refine And.intro ?_ ?_)
  repeat' ((conv => whnf); first | refine vA ?_ | with_reducible first | refine vS ?_ | refine vR ?_ | refine vB ?_ | refine br_nt ?_ | refine br_tt ?_ | refine br_ff ?_ | refine vP ?_ | refine vQ ?_ | refine vT ?_ | refine vF ?_ | refine br_and ?_ | refine br_or ?_ | refine br_d (fun _ => ?_) fun _ => ?_ | refine vM (fun _ => ?_) fun _ => ?_)
  exact h
/-! ### Comparisons -/
def C40 : List AV → (AV → Prop) → Prop := con (X := Mark) (fun m => [.agg (encM m), .agg (encM m)]) (fun _ => True) fun _ K => K (.bool true)
theorem F40 : FF 40 C40 := by
  refine fitE [] (by simp) Try.f40 ⟨rfl, by decide +kernel, by decide +kernel⟩ (fun _ _ _ hk h => hk _ h) ?_
  rintro m K _ h
  refine ⟨Nat.le_of_ble_eq_true rfl, ?_⟩
  repeat' ((conv => whnf); first | refine vA ?_ | with_reducible first | refine vS ?_ | refine vR ?_ | refine vB ?_ | refine br_nt ?_ | refine br_tt ?_ | refine br_ff ?_ | refine vP ?_ | refine vQ ?_ | refine vT ?_ | refine vF ?_ | refine br_and ?_ | refine br_or ?_ | refine br_d (fun _ => ?_) fun _ => ?_ | refine vM (fun _ => ?_) fun _ => ?_)
  exact h
def C17 : List AV → (AV → Prop) → Prop := con (X := List Mark) (fun l => [slM l, slM l]) (fun l => l.length ≤ 1048576) fun _ K => K (.bool true)
theorem F17 : FF 17 C17 := by
  refine fitE [(40, C40)] (by simp only [List.mem_cons, List.not_mem_nil, or_false]; rintro _ rfl <;> first | exact F40) Try.f17 ⟨rfl, by decide +kernel, by decide +kernel⟩ (fun _ _ _ hk h => hk _ h) ?_
  rintro l K h1 h
  refine ⟨Nat.le_of_ble_eq_true rfl, ?_⟩
  repeat' ((conv => whnf); first | refine vA ?_ | with_reducible first | refine vS ?_ | refine vR ?_ | refine vB ?_ | refine br_nt ?_ | refine br_tt ?_ | refine br_ff ?_ | refine vP ?_ | refine vQ ?_ | refine vT ?_ | refine vF ?_ | refine br_and ?_ | refine br_or ?_ | refine br_d (fun _ => ?_) fun _ => ?_ | refine vM (fun _ => ?_) fun _ => ?_)
  refine Lp.mk ⟨Nat, fun i => [(0, slM l), (1, slM l), (5, .int .i64 i)], fun i => [], fun i => i ≤ l.length, fun i => l.length - i, ⟨0, Nat.zero_le _, ⟨⟨[], [], rfl, rfl, ?_, ?_⟩⟩⟩, ?_⟩
  · repeat' ((conv => whnf); first | with_reducible exact True.intro | exact vW | with_reducible refine And.intro ?_ ?_)
  · repeat' ((conv => whnf); first | with_reducible exact True.intro | exact vW | with_reducible refine And.intro ?_ ?_)
  intro i i1
  dsimp only
  repeat' ((conv => whnf); first | refine vA ?_ | with_reducible first | refine vS ?_ | refine vR ?_ | refine vB ?_ | refine br_nt ?_ | refine br_tt ?_ | refine br_ff ?_ | refine vP ?_ | refine vQ ?_ | refine vT ?_ | refine vF ?_ | refine br_and ?_ | refine br_or ?_ | refine br_d (fun _ => ?_) fun _ => ?_ | refine vM (fun _ => ?_) fun _ => ?_)
  · refine Dr.mk ⟨[0, 1, 2, 3, 4, 5, 6, 7, 8, 9], by decide +kernel, ?_⟩
    repeat' ((conv => whnf); first | refine vA ?_ | with_reducible first | refine vS ?_ | refine vR ?_ | refine vB ?_ | refine br_nt ?_ | refine br_tt ?_ | refine br_ff ?_ | refine vP ?_ | refine vQ ?_ | refine vT ?_ | refine vF ?_ | refine br_and ?_ | refine br_or ?_ | refine br_d (fun _ => ?_) fun _ => ?_ | refine vM (fun _ => ?_) fun _ => ?_)
    refine ⟨l.getD i default, ?_, ⟨trivial⟩, ?_⟩
    · repeat' ((conv => whnf); first | with_reducible exact True.intro | exact vW | with_reducible refine And.intro ?_ ?_)
    repeat' ((conv => whnf); first | refine vA ?_ | with_reducible first | refine vS ?_ | refine vR ?_ | refine vB ?_ | refine br_nt ?_ | refine br_tt ?_ | refine br_ff ?_ | refine vP ?_ | refine vQ ?_ | refine vT ?_ | refine vF ?_ | refine br_and ?_ | refine br_or ?_ | refine br_d (fun _ => ?_) fun _ => ?_ | refine vM (fun _ => ?_) fun _ => ?_)
    refine ⟨i + 1, by show i + 1 ≤ l.length; omega, by show l.length - (i + 1) < l.length - i; omega, ⟨⟨[], [], rfl, rfl, ?_, ?_⟩⟩⟩
    · repeat' ((conv => whnf); first | with_reducible exact True.intro | exact vW | with_reducible refine And.intro ?_ ?_)
    · repeat' ((conv => whnf); first | with_reducible exact True.intro | exact vW | with_reducible refine And.intro ?_ ?_)
  · exact h
def C18 : List AV → (AV → Prop) → Prop := con (X := List Int) (fun l => [slI l, slI l]) (fun l => l.length ≤ 1048576) fun _ K => K (.bool true)
theorem F18 : FF 18 C18 := by
  refine fitE [] (by simp) Try.f18 ⟨rfl, by decide +kernel, by decide +kernel⟩ (fun _ _ _ hk h => hk _ h) ?_
  rintro l K h1 h
  refine ⟨Nat.le_of_ble_eq_true rfl, ?_⟩
  repeat' ((conv => whnf); first | refine vA ?_ | with_reducible first | refine vS ?_ | refine vR ?_ | refine vB ?_ | refine br_nt ?_ | refine br_tt ?_ | refine br_ff ?_ | refine vP ?_ | refine vQ ?_ | refine vT ?_ | refine vF ?_ | refine br_and ?_ | refine br_or ?_ | refine br_d (fun _ => ?_) fun _ => ?_ | refine vM (fun _ => ?_) fun _ => ?_)
  refine Lp.mk ⟨Nat, fun i => [(0, slI l), (1, slI l), (5, .int .i64 i)], fun i => [], fun i => i ≤ l.length, fun i => l.length - i, ⟨0, Nat.zero_le _, ⟨⟨[], [], rfl, rfl, ?_, ?_⟩⟩⟩, ?_⟩
  · repeat' ((conv => whnf); first | with_reducible exact True.intro | exact vW | with_reducible refine And.intro ?_ ?_)
  · repeat' ((conv => whnf); first | with_reducible exact True.intro | exact vW | with_reducible refine And.intro ?_ ?_)
  intro i i1
  dsimp only
  repeat' ((conv => whnf); first | refine vA ?_ | with_reducible first | refine vS ?_ | refine vR ?_ | refine vB ?_ | refine br_nt ?_ | refine br_tt ?_ | refine br_ff ?_ | refine vP ?_ | refine vQ ?_ | refine vT ?_ | refine vF ?_ | refine br_and ?_ | refine br_or ?_ | refine br_d (fun _ => ?_) fun _ => ?_ | refine vM (fun _ => ?_) fun _ => ?_)
  · refine Dr.mk ⟨[0, 1, 2, 3, 4, 5, 6, 7, 8], by decide +kernel, ?_⟩
    repeat' ((conv => whnf); first | refine vA ?_ | with_reducible first | refine vS ?_ | refine vR ?_ | refine vB ?_ | refine br_nt ?_ | refine br_tt ?_ | refine br_ff ?_ | refine vP ?_ | refine vQ ?_ | refine vT ?_ | refine vF ?_ | refine br_and ?_ | refine br_or ?_ | refine br_d (fun _ => ?_) fun _ => ?_ | refine vM (fun _ => ?_) fun _ => ?_)
    refine ⟨i + 1, by show i + 1 ≤ l.length; omega, by show l.length - (i + 1) < l.length - i; omega, ⟨⟨[], [], rfl, rfl, ?_, ?_⟩⟩⟩
    · repeat' ((conv => whnf); first | with_reducible exact True.intro | exact vW | with_reducible refine And.intro ?_ ?_)
    · repeat' ((conv => whnf); first | with_reducible exact True.intro | exact vW | with_reducible refine And.intro ?_ ?_)
  · exact h
def C16 : List AV → (AV → Prop) → Prop := con (X := House) (fun h => [enH h, enH h]) (fun h => h.bs.length ≤ 1048576) fun _ K => K (.bool true)
theorem F16 : FF 16 C16 := by
  refine fitE [(18, C18)] (by simp only [List.mem_cons, List.not_mem_nil, or_false]; rintro _ rfl <;> first | exact F18) Try.f16 ⟨rfl, by decide +kernel, by decide +kernel⟩ (fun _ _ _ hk h => hk _ h) ?_
  rintro ⟨p, bs⟩ K h1 h
  refine ⟨Nat.le_of_ble_eq_true rfl, ?_⟩
  dsimp only at h1 h ⊢
  repeat' ((conv => whnf); first | refine vA ?_ | with_reducible first | refine vS ?_ | refine vR ?_ | refine vB ?_ | refine br_nt ?_ | refine br_tt ?_ | refine br_ff ?_ | refine vP ?_ | refine vQ ?_ | refine vT ?_ | refine vF ?_ | refine br_and ?_ | refine br_or ?_ | refine br_d (fun _ => ?_) fun _ => ?_ | refine vM (fun _ => ?_) fun _ => ?_)
  refine ⟨bs, ?_, ⟨h1⟩, ?_⟩
  · repeat' ((conv => whnf); first | with_reducible exact True.intro | exact vW | with_reducible refine And.intro ?_ ?_)
  repeat' ((conv => whnf); first | refine vA ?_ | with_reducible first | refine vS ?_ | refine vR ?_ | refine vB ?_ | refine br_nt ?_ | refine br_tt ?_ | refine br_ff ?_ | refine vP ?_ | refine vQ ?_ | refine vT ?_ | refine vF ?_ | refine br_and ?_ | refine br_or ?_ | refine br_d (fun _ => ?_) fun _ => ?_ | refine vM (fun _ => ?_) fun _ => ?_)
  exact h
end Go.Proofs.Ytbbgojaloebknaa.Vc
