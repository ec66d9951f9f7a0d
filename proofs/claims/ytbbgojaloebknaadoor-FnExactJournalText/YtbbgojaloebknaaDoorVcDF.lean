/- Part DF: the texts of journals. -/
import Derived.Test.YtbbgojaloebknaaDoorVcDE
namespace Go.Proofs.YtbbgojaloebknaaDoor.Vc
open Go.Proofs
set_option maxRecDepth 10000
set_option maxHeartbeats 4000000
theorem wsum_mono (l : List Dd) {i j : Nat} (h : i ≤ j) : wsum l i ≤ wsum l j := by
  induction j with
  | zero => obtain rfl : i = 0 := by omega
            exact Nat.le_refl _
  | succ j ih =>
    by_cases e : i = j + 1
    · subst e; exact Nat.le_refl _
    · have := ih (by omega)
      show wsum l i ≤ wsum l j + _
      omega
theorem wsum_at (l : List Dd) {i : Nat} (h : i < l.length) : (l.getD i default).words.size ≤ wsum l l.length := by
  have := wsum_mono l (show i + 1 ≤ l.length from h)
  have e : wsum l (i + 1) = wsum l i + (l.getD i default).words.size := rfl
  omega
/-- szDeedS -/
def C111 : List AV → (AV → Prop) → Prop := con (X := List Dd × Int) (fun x => [slD x.1, .int .i64 x.2]) (fun x => x.1.length < 9223372036854775808 ∧ (∀ d ∈ x.1, d.words.size < 9223372036854775808) ∧ 0 ≤ x.2 ∧ x.2 ≤ 9223372036854775807)
  fun x K => ∀ r : Int, (0 ≤ r → (x.1.length : Int) + wsum x.1 x.1.length ≤ x.2) → K (.int .i64 r)
theorem F111 : FF 9 C111 := by
  refine fitE [(5, C107)] (by simp only [List.mem_cons, List.not_mem_nil, or_false]; rintro _ rfl; exact F107) Tryd.f9 ⟨rfl, by decide +kernel, by decide +kernel⟩ (fun _ _ _ hk h r hr => hk _ (h r hr)) ?_
  rintro ⟨l, n⟩ K ⟨h1, h2, h3, h4⟩ h
  refine ⟨Nat.le_of_ble_eq_true rfl, ?_⟩
  dsimp only at h1 h2 h3 h4 h ⊢
  repeat' ((conv => whnf); first | refine vA ?_ | with_reducible first | refine v8 ?_ | refine Sp.mk ?_ ?_ | refine vS ?_ | refine vR ?_ | refine vB ?_ | refine br_nt ?_ | refine br_tt ?_ | refine br_ff ?_ | refine vP ?_ | refine vQ ?_ | refine vT ?_ | refine vF ?_ | refine br_and ?_ | refine br_or ?_ | refine br_d (fun _ => ?_) fun _ => ?_ | refine vM (fun _ => ?_) fun _ => ?_)
  · exact h _ (fun h0 => absurd h0 (by decide))
  · refine Lp.mk ⟨Nat, fun i => [(0, slD l), (1, .int .i64 (n - l.length - wsum l i)), (5, .int .i64 i)], fun i => [], fun i => i ≤ l.length ∧ 0 ≤ n - l.length - wsum l i, fun i => l.length - i, ⟨0, ⟨Nat.zero_le _, by show 0 ≤ n - l.length - ((0 : Nat) : Int); omega⟩, ⟨⟨[], [], rfl, rfl, ?_, ?_⟩⟩⟩, ?_⟩
    · repeat' ((conv => whnf); first | with_reducible exact True.intro | exact vW | with_reducible refine And.intro ?_ ?_)
      all_goals exact Chk.mk (by show _ - ((0 : Nat) : Int) = _; omega)
    · repeat' ((conv => whnf); first | with_reducible exact True.intro | exact vW | with_reducible refine And.intro ?_ ?_)
    intro i ⟨i1, i2⟩
    dsimp only
    repeat' ((conv => whnf); first | refine vA ?_ | with_reducible first | refine v8 ?_ | refine Sp.mk ?_ ?_ | refine vS ?_ | refine vR ?_ | refine vB ?_ | refine br_nt ?_ | refine br_tt ?_ | refine br_ff ?_ | refine vP ?_ | refine vQ ?_ | refine vT ?_ | refine vF ?_ | refine br_and ?_ | refine br_or ?_ | refine br_d (fun _ => ?_) fun _ => ?_ | refine vM (fun _ => ?_) fun _ => ?_)
    · rename_i hi
      have hi' : i < l.length := by omega
      have hw := h2 _ (show l.getD i default ∈ l by rw [List.getD_eq_getElem?_getD, List.getElem?_eq_getElem hi']; exact List.getElem_mem hi')
      have e : wsum l (i + 1) = wsum l i + (l.getD i default).words.size := rfl
      refine ⟨(l.getD i default, n - l.length - wsum l i), ?_, ⟨hw, by dsimp only; omega, by dsimp only; omega⟩, ?_⟩
      · repeat' ((conv => whnf); first | with_reducible exact True.intro | exact vW | with_reducible refine And.intro ?_ ?_)
      dsimp only
      by_cases hn : n - l.length - wsum l i - (l.getD i default).words.size < 0
      · rw [if_pos hn]
        repeat' ((conv => whnf); first | refine vA ?_ | with_reducible first | refine v8 ?_ | refine Sp.mk ?_ ?_ | refine vS ?_ | refine vR ?_ | refine vB ?_ | refine br_nt ?_ | refine br_tt ?_ | refine br_ff ?_ | refine vP ?_ | refine vQ ?_ | refine vT ?_ | refine vF ?_ | refine br_and ?_ | refine br_or ?_ | refine br_d (fun _ => ?_) fun _ => ?_ | refine vM (fun _ => ?_) fun _ => ?_)
        exact h _ (fun h0 => absurd h0 (by decide))
      · rw [if_neg hn]
        repeat' ((conv => whnf); first | refine vA ?_ | with_reducible first | refine v8 ?_ | refine Sp.mk ?_ ?_ | refine vS ?_ | refine vR ?_ | refine vB ?_ | refine br_nt ?_ | refine br_tt ?_ | refine br_ff ?_ | refine vP ?_ | refine vQ ?_ | refine vT ?_ | refine vF ?_ | refine br_and ?_ | refine br_or ?_ | refine br_d (fun _ => ?_) fun _ => ?_ | refine vM (fun _ => ?_) fun _ => ?_)
        refine ⟨i + 1, ⟨by omega, by omega⟩, by omega, ⟨⟨[], [], rfl, rfl, ?_, ?_⟩⟩⟩
        · repeat' ((conv => whnf); first | with_reducible exact True.intro | exact vW | with_reducible refine And.intro ?_ ?_)
          all_goals exact Chk.mk (by omega)
        · repeat' ((conv => whnf); first | with_reducible exact True.intro | exact vW | with_reducible refine And.intro ?_ ?_)
    · obtain rfl : i = l.length := by omega
      exact h _ (fun h0 => by omega)
theorem deedT_size (d : Dd) : (deedT d).size ≤ d.words.size + 12 := by
  unfold deedT
  split
  · exact Nat.zero_le _
  · rename_i hr
    have ha := num_size (n := d.a) (by omega) (by omega)
    have hb := num_size (n := d.b) (by omega) (by omega)
    have z1 := sz1; have z2 := sz2; have z3 := sz3; have z4 := sz4; have z5 := sz5
    have z6 : (⟨#[98, 97, 99, 107]⟩ : ByteArray).size = 4 := rfl
    have z7 : (⟨#[]⟩ : ByteArray).size = 0 := rfl
    repeat' split
    all_goals (repeat rw [ByteArray.size_append]); omega
def jtx (l : List Dd) : Nat → ByteArray
  | 0 => ⟨#[]⟩
  | i + 1 => jtx l i ++ (deedT (l.getD i default) ++ ⟨#[10]⟩)
theorem jtx_size (l : List Dd) : ∀ i, (jtx l i).size ≤ wsum l i + 13 * i
  | 0 => Nat.zero_le _
  | i + 1 => by
    have h1 := jtx_size l i
    have h2 := deedT_size (l.getD i default)
    have e : wsum l (i + 1) = wsum l i + (l.getD i default).words.size := rfl
    have z : (⟨#[10]⟩ : ByteArray).size = 1 := rfl
    unfold jtx
    rw [ByteArray.size_append, ByteArray.size_append]
    omega
open Classical in
/-- A journal's text. -/
noncomputable def jT (l : List Dd) : ByteArray := if ∃ i, i < l.length ∧ deedT (l.getD i default) = ⟨#[]⟩ then ⟨#[]⟩ else jtx l l.length
theorem jT_no {l : List Dd} {i : Nat} (h : i < l.length) (e : deedT (l.getD i default) = ⟨#[]⟩) : jT l = ⟨#[]⟩ := if_pos ⟨i, h, e⟩
theorem jT_yes {l : List Dd} (h : ∀ i, i < l.length → deedT (l.getD i default) ≠ ⟨#[]⟩) : jT l = jtx l l.length := if_neg fun ⟨i, h1, h2⟩ => h i h1 h2
def jOk (l : List Dd) : Prop := l.length + wsum l l.length ≤ 1048576
def C114 : List AV → (AV → Prop) → Prop := con (X := List Dd) (fun l => [slD l]) jOk fun l K => K (.str (jT l))
theorem F114 : FF 12 C114 := by
  refine fitE [(16, C103)] (by simp only [List.mem_cons, List.not_mem_nil, or_false]; rintro _ rfl <;> first | exact F103) Tryd.f12 ⟨rfl, by decide +kernel, by decide +kernel⟩ (fun _ _ _ hk h => hk _ h) ?_
  rintro l K h1 h
  refine ⟨Nat.le_of_ble_eq_true rfl, ?_⟩
  unfold jOk at h1
  repeat' ((conv => whnf); first | refine vA ?_ | with_reducible first | refine v8 ?_ | refine Sp.mk ?_ ?_ | refine vS ?_ | refine vR ?_ | refine vB ?_ | refine br_nt ?_ | refine br_tt ?_ | refine br_ff ?_ | refine vP ?_ | refine vQ ?_ | refine vT ?_ | refine vF ?_ | refine br_and ?_ | refine br_or ?_ | refine br_d (fun _ => ?_) fun _ => ?_ | refine vM (fun _ => ?_) fun _ => ?_)
  refine Lp.mk ⟨Nat, fun i => [(3, .str (jtx l i)), (7, slD l), (8, .int .i64 l.length), (9, .int .i64 i)], fun i => [], fun i => i ≤ l.length ∧ ∀ j, j < i → deedT (l.getD j default) ≠ ⟨#[]⟩, fun i => l.length - i, ⟨0, ⟨Nat.zero_le _, fun j hj => by omega⟩, ⟨⟨[], [], rfl, rfl, ?_, ?_⟩⟩⟩, ?_⟩
  · repeat' ((conv => whnf); first | with_reducible exact True.intro | exact vW | with_reducible refine And.intro ?_ ?_)
  · repeat' ((conv => whnf); first | with_reducible exact True.intro | exact vW | with_reducible refine And.intro ?_ ?_)
  intro i ⟨i1, i2⟩
  dsimp only
  repeat' ((conv => whnf); first | refine vA ?_ | with_reducible first | refine v8 ?_ | refine Sp.mk ?_ ?_ | refine vS ?_ | refine vR ?_ | refine vB ?_ | refine br_nt ?_ | refine br_tt ?_ | refine br_ff ?_ | refine vP ?_ | refine vQ ?_ | refine vT ?_ | refine vF ?_ | refine br_and ?_ | refine br_or ?_ | refine br_d (fun _ => ?_) fun _ => ?_ | refine vM (fun _ => ?_) fun _ => ?_)
  · rename_i hi
    have hi' : i < l.length := by omega
    have hw := wsum_at l hi'
    refine ⟨l.getD i default, ?_, ⟨by omega⟩, ?_⟩
    · repeat' ((conv => whnf); first | with_reducible exact True.intro | exact vW | with_reducible refine And.intro ?_ ?_)
    repeat' ((conv => whnf); first | refine vA ?_ | with_reducible first | refine v8 ?_ | refine Sp.mk ?_ ?_ | refine vS ?_ | refine vR ?_ | refine vB ?_ | refine br_nt ?_ | refine br_tt ?_ | refine br_ff ?_ | refine vP ?_ | refine vQ ?_ | refine vT ?_ | refine vF ?_ | refine br_and ?_ | refine br_or ?_ | refine br_d (fun _ => ?_) fun _ => ?_ | refine vM (fun _ => ?_) fun _ => ?_)
    · rename_i e
      rw [jT_no hi' e] at h
      exact h
    · rename_i e
      have hs := deedT_size (l.getD i default)
      have hj := jtx_size l i
      have hm := wsum_mono l i1
      have z : (⟨#[10]⟩ : ByteArray).size = 1 := rfl
      repeat' ((conv => whnf); first | refine ⟨Chk.mk (by (repeat rw [ByteArray.size_append]); omega), ?_⟩ | refine vA ?_ | with_reducible first | refine v8 ?_ | refine Sp.mk ?_ ?_ | refine vS ?_ | refine vR ?_ | refine vB ?_ | refine br_nt ?_ | refine br_tt ?_ | refine br_ff ?_ | refine vP ?_ | refine vQ ?_ | refine vT ?_ | refine vF ?_ | refine br_and ?_ | refine br_or ?_ | refine br_d (fun _ => ?_) fun _ => ?_ | refine vM (fun _ => ?_) fun _ => ?_)
      refine ⟨i + 1, ⟨by omega, fun j hj => ?_⟩, by omega, ⟨⟨[], [], rfl, rfl, ?_, ?_⟩⟩⟩
      · by_cases ej : j = i
        · subst ej; exact e
        · exact i2 j (by omega)
      · repeat' ((conv => whnf); first | with_reducible exact True.intro | exact vW | with_reducible refine And.intro ?_ ?_)
      · repeat' ((conv => whnf); first | with_reducible exact True.intro | exact vW | with_reducible refine And.intro ?_ ?_)
  · obtain rfl : i = l.length := by omega
    rw [jT_yes i2] at h
    exact h
def C112 := C114
theorem F112 : FF 10 C112 := by
  refine fitE [(6, C105)] (by simp only [List.mem_cons, List.not_mem_nil, or_false]; rintro _ rfl <;> first | exact F105) Tryd.f10 ⟨rfl, by decide +kernel, by decide +kernel⟩ (fun _ _ _ hk h => hk _ h) ?_
  rintro l K h1 h
  refine ⟨Nat.le_of_ble_eq_true rfl, ?_⟩
  unfold jOk at h1
  repeat' ((conv => whnf); first | refine vA ?_ | with_reducible first | refine v8 ?_ | refine Sp.mk ?_ ?_ | refine vS ?_ | refine vR ?_ | refine vB ?_ | refine br_nt ?_ | refine br_tt ?_ | refine br_ff ?_ | refine vP ?_ | refine vQ ?_ | refine vT ?_ | refine vF ?_ | refine br_and ?_ | refine br_or ?_ | refine br_d (fun _ => ?_) fun _ => ?_ | refine vM (fun _ => ?_) fun _ => ?_)
  refine Lp.mk ⟨Nat, fun i => [(0, slD l), (3, .str (jtx l i)), (4, .int .i64 i)], fun i => [], fun i => i ≤ l.length ∧ ∀ j, j < i → deedT (l.getD j default) ≠ ⟨#[]⟩, fun i => l.length - i, ⟨0, ⟨Nat.zero_le _, fun j hj => by omega⟩, ⟨⟨[], [], rfl, rfl, ?_, ?_⟩⟩⟩, ?_⟩
  · repeat' ((conv => whnf); first | with_reducible exact True.intro | exact vW | with_reducible refine And.intro ?_ ?_)
  · repeat' ((conv => whnf); first | with_reducible exact True.intro | exact vW | with_reducible refine And.intro ?_ ?_)
  intro i ⟨i1, i2⟩
  dsimp only
  repeat' ((conv => whnf); first | refine vA ?_ | with_reducible first | refine v8 ?_ | refine Sp.mk ?_ ?_ | refine vS ?_ | refine vR ?_ | refine vB ?_ | refine br_nt ?_ | refine br_tt ?_ | refine br_ff ?_ | refine vP ?_ | refine vQ ?_ | refine vT ?_ | refine vF ?_ | refine br_and ?_ | refine br_or ?_ | refine br_d (fun _ => ?_) fun _ => ?_ | refine vM (fun _ => ?_) fun _ => ?_)
  · rename_i hi
    have hi' : i < l.length := by omega
    have hw := wsum_at l hi'
    refine ⟨l.getD i default, ?_, ⟨by omega⟩, ?_⟩
    · repeat' ((conv => whnf); first | with_reducible exact True.intro | exact vW | with_reducible refine And.intro ?_ ?_)
    repeat' ((conv => whnf); first | refine vA ?_ | with_reducible first | refine v8 ?_ | refine Sp.mk ?_ ?_ | refine vS ?_ | refine vR ?_ | refine vB ?_ | refine br_nt ?_ | refine br_tt ?_ | refine br_ff ?_ | refine vP ?_ | refine vQ ?_ | refine vT ?_ | refine vF ?_ | refine br_and ?_ | refine br_or ?_ | refine br_d (fun _ => ?_) fun _ => ?_ | refine vM (fun _ => ?_) fun _ => ?_)
    · rename_i e
      rw [jT_no hi' e] at h
      exact h
    · rename_i e
      have hs := deedT_size (l.getD i default)
      have hj := jtx_size l i
      have hm := wsum_mono l i1
      have z : (⟨#[10]⟩ : ByteArray).size = 1 := rfl
      refine ⟨l.getD i default, ?_, ⟨by omega⟩, ?_⟩
      · repeat' ((conv => whnf); first | with_reducible exact True.intro | exact vW | with_reducible refine And.intro ?_ ?_)
      repeat' ((conv => whnf); first | refine ⟨Chk.mk (by (repeat rw [ByteArray.size_append]); omega), ?_⟩ | refine vA ?_ | with_reducible first | refine v8 ?_ | refine Sp.mk ?_ ?_ | refine vS ?_ | refine vR ?_ | refine vB ?_ | refine br_nt ?_ | refine br_tt ?_ | refine br_ff ?_ | refine vP ?_ | refine vQ ?_ | refine vT ?_ | refine vF ?_ | refine br_and ?_ | refine br_or ?_ | refine br_d (fun _ => ?_) fun _ => ?_ | refine vM (fun _ => ?_) fun _ => ?_)
      refine ⟨i + 1, ⟨by omega, fun j hj => ?_⟩, by omega, ⟨⟨[], [], rfl, rfl, ?_, ?_⟩⟩⟩
      · by_cases ej : j = i
        · subst ej; exact e
        · exact i2 j (by omega)
      · repeat' ((conv => whnf); first | with_reducible exact True.intro | exact vW | with_reducible refine And.intro ?_ ?_)
        all_goals exact Chk.mk (ByteArray.append_assoc ..).symm
      · repeat' ((conv => whnf); first | with_reducible exact True.intro | exact vW | with_reducible refine And.intro ?_ ?_)
  · obtain rfl : i = l.length := by omega
    rw [jT_yes i2] at h
    exact h
def C110 : List AV → (AV → Prop) → Prop := con (X := List Dd) (fun l => [slD l]) (fun l => l.length < 9223372036854775808 ∧ ∀ d ∈ l, d.words.size < 9223372036854775808) fun _ K => K (.bool true)
theorem F110 : FF 4 C110 := by
  refine fitE [(9, C111), (10, C112), (11, C113), (12, C114), (13, C115)] (by simp only [List.mem_cons, List.not_mem_nil, or_false]; rintro _ (rfl | rfl | rfl | rfl | rfl) <;> first | exact F111 | exact F112 | exact F113 | exact F114 | exact F115) Tryd.f4 ⟨rfl, by decide +kernel, by decide +kernel⟩ (fun _ _ _ hk h => hk _ h) ?_
  rintro l K ⟨h1, h2⟩ h
  refine ⟨Nat.le_of_ble_eq_true rfl, ?_⟩
  repeat' ((conv => whnf); first | refine vA ?_ | with_reducible first | refine v8 ?_ | refine Sp.mk ?_ ?_ | refine vS ?_ | refine vR ?_ | refine vB ?_ | refine br_nt ?_ | refine br_tt ?_ | refine br_ff ?_ | refine vP ?_ | refine vQ ?_ | refine vT ?_ | refine vF ?_ | refine br_and ?_ | refine br_or ?_ | refine br_d (fun _ => ?_) fun _ => ?_ | refine vM (fun _ => ?_) fun _ => ?_)
  refine ⟨(l, 1048576), ?_, ⟨h1, h2, by dsimp only; omega, by dsimp only; omega⟩, fun r hr => ?_⟩
  · repeat' ((conv => whnf); first | with_reducible exact True.intro | exact vW | with_reducible refine And.intro ?_ ?_)
  dsimp only at hr
  repeat' ((conv => whnf); first | refine vA ?_ | with_reducible first | refine v8 ?_ | refine Sp.mk ?_ ?_ | refine vS ?_ | refine vR ?_ | refine vB ?_ | refine br_nt ?_ | refine br_tt ?_ | refine br_ff ?_ | refine vP ?_ | refine vQ ?_ | refine vT ?_ | refine vF ?_ | refine br_and ?_ | refine br_or ?_ | refine br_d (fun _ => ?_) fun _ => ?_ | refine vM (fun _ => ?_) fun _ => ?_)
  · exact h
  · have hj : jOk l := by unfold jOk; have := hr (by omega); omega
    have hl : l.length ≤ 1048576 := by unfold jOk at hj; omega
    refine ⟨l, ?_, ⟨hl⟩, ?_⟩
    · repeat' ((conv => whnf); first | with_reducible exact True.intro | exact vW | with_reducible refine And.intro ?_ ?_)
    repeat' ((conv => whnf); first | refine vA ?_ | with_reducible first | refine v8 ?_ | refine Sp.mk ?_ ?_ | refine vS ?_ | refine vR ?_ | refine vB ?_ | refine br_nt ?_ | refine br_tt ?_ | refine br_ff ?_ | refine vP ?_ | refine vQ ?_ | refine vT ?_ | refine vF ?_ | refine br_and ?_ | refine br_or ?_ | refine br_d (fun _ => ?_) fun _ => ?_ | refine vM (fun _ => ?_) fun _ => ?_)
    refine ⟨l, ?_, ⟨hj⟩, ?_⟩
    · repeat' ((conv => whnf); first | with_reducible exact True.intro | exact vW | with_reducible refine And.intro ?_ ?_)
    repeat' ((conv => whnf); first | refine vA ?_ | with_reducible first | refine v8 ?_ | refine Sp.mk ?_ ?_ | refine vS ?_ | refine vR ?_ | refine vB ?_ | refine br_nt ?_ | refine br_tt ?_ | refine br_ff ?_ | refine vP ?_ | refine vQ ?_ | refine vT ?_ | refine vF ?_ | refine br_and ?_ | refine br_or ?_ | refine br_d (fun _ => ?_) fun _ => ?_ | refine vM (fun _ => ?_) fun _ => ?_)
    refine ⟨l, ?_, ⟨hl⟩, ?_⟩
    · repeat' ((conv => whnf); first | with_reducible exact True.intro | exact vW | with_reducible refine And.intro ?_ ?_)
    repeat' ((conv => whnf); first | refine vA ?_ | with_reducible first | refine v8 ?_ | refine Sp.mk ?_ ?_ | refine vS ?_ | refine vR ?_ | refine vB ?_ | refine br_nt ?_ | refine br_tt ?_ | refine br_ff ?_ | refine vP ?_ | refine vQ ?_ | refine vT ?_ | refine vF ?_ | refine br_and ?_ | refine br_or ?_ | refine br_d (fun _ => ?_) fun _ => ?_ | refine vM (fun _ => ?_) fun _ => ?_)
    refine ⟨l, ?_, ⟨hj⟩, ?_⟩
    · repeat' ((conv => whnf); first | with_reducible exact True.intro | exact vW | with_reducible refine And.intro ?_ ?_)
    repeat' ((conv => whnf); first | refine vA ?_ | with_reducible first | refine v8 ?_ | refine Sp.mk ?_ ?_ | refine vS ?_ | refine vR ?_ | refine vB ?_ | refine br_nt ?_ | refine br_tt ?_ | refine br_ff ?_ | refine vP ?_ | refine vQ ?_ | refine vT ?_ | refine vF ?_ | refine br_and ?_ | refine br_or ?_ | refine br_d (fun _ => ?_) fun _ => ?_ | refine vM (fun _ => ?_) fun _ => ?_)
    · refine ⟨l, ?_, ⟨hl⟩, ?_⟩
      · repeat' ((conv => whnf); first | with_reducible exact True.intro | exact vW | with_reducible refine And.intro ?_ ?_)
      repeat' ((conv => whnf); first | refine vA ?_ | with_reducible first | refine v8 ?_ | refine Sp.mk ?_ ?_ | refine vS ?_ | refine vR ?_ | refine vB ?_ | refine br_nt ?_ | refine br_tt ?_ | refine br_ff ?_ | refine vP ?_ | refine vQ ?_ | refine vT ?_ | refine vF ?_ | refine br_and ?_ | refine br_or ?_ | refine br_d (fun _ => ?_) fun _ => ?_ | refine vM (fun _ => ?_) fun _ => ?_)
      refine ⟨l, ?_, ⟨hl⟩, ?_⟩
      · repeat' ((conv => whnf); first | with_reducible exact True.intro | exact vW | with_reducible refine And.intro ?_ ?_)
      repeat' ((conv => whnf); first | refine vA ?_ | with_reducible first | refine v8 ?_ | refine Sp.mk ?_ ?_ | refine vS ?_ | refine vR ?_ | refine vB ?_ | refine br_nt ?_ | refine br_tt ?_ | refine br_ff ?_ | refine vP ?_ | refine vQ ?_ | refine vT ?_ | refine vF ?_ | refine br_and ?_ | refine br_or ?_ | refine br_d (fun _ => ?_) fun _ => ?_ | refine vM (fun _ => ?_) fun _ => ?_)
      exact h
    · rename_i hne; exact absurd rfl hne
end Go.Proofs.YtbbgojaloebknaaDoor.Vc
