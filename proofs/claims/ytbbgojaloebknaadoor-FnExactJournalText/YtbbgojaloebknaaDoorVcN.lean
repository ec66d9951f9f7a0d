/- Part N of the engine: what an operation looks at: its operands' slots, and the local objects that they lead to. -/
import Derived.Test.YtbbgojaloebknaaDoorVcM
import Derived.Orders
namespace Go.Proofs.YtbbgojaloebknaaDoor.Vc
mutual
def ids : AV → List Nat
  | .row id _ _ _ => [id]
  | .ptr id _ => [id]
  | .eptr id _ _ _ => [id]
  | .agg l => idsL l
  | .tup l => idsL l
  | .fn _ l m => idsL l ++ idsL m
  | _ => []
def idsL : List AV → List Nat
  | [] => []
  | v :: r => ids v ++ idsL r
end
/-- Operations that look at the slots alone. -/
def bare : Op → Bool
  | .move _ | .assign _ | .pick .. | .binOp .. | .unOp .. => true
  | _ => false
def idsOf (t : Fr) : List Operand → List Nat
  | [] => []
  | x :: r => ids (ev t x) ++ idsOf t r
def addP : List Nat → List Nat → (List Nat → Prop) → Prop
  | [], l, K => K l
  | i :: r, l, K => cond (l.any fun j => Nat.beq j i) (addP r l K) (addP r (i :: l) K)
def opIds (op : Op) (t : Fr) : List Nat := cond (bare op) [] (idsOf t op.operands.toList)
theorem addP_spec : ∀ {l m : List Nat} {K : List Nat → Prop}, addP l m K → ∃ s, K s ∧ (∀ i, i ∈ l → i ∈ s) ∧ ∀ i, i ∈ m → i ∈ s
  | [], m, K, h => ⟨m, h, fun i hi => (by cases hi), fun i hi => hi⟩
  | j :: r, m, K, h => by
    unfold addP at h
    cases hc : m.any fun k => Nat.beq k j with
    | true =>
      rw [hc] at h
      obtain ⟨s, h1, h2, h3⟩ := addP_spec (l := r) h
      refine ⟨s, h1, fun i hi => ?_, h3⟩
      rcases List.mem_cons.1 hi with rfl | hi
      · obtain ⟨k, hk, hb⟩ := List.any_eq_true.1 hc
        rw [← Nat.eq_of_beq_eq_true hb]
        exact h3 k hk
      · exact h2 i hi
    | false =>
      rw [hc] at h
      obtain ⟨s, h1, h2, h3⟩ := addP_spec (l := r) h
      refine ⟨s, h1, fun i hi => ?_, fun i hi => h3 i (List.mem_cons_of_mem _ hi)⟩
      rcases List.mem_cons.1 hi with rfl | hi
      · exact h3 _ List.mem_cons_self
      · exact h2 i hi
theorem mem_idsOf {t : Fr} {x : Operand} {i : Nat} : ∀ {l : List Operand}, x ∈ l → i ∈ ids (ev t x) → i ∈ idsOf t l
  | [], hx, _ => by cases hx
  | y :: r, hx, hi => by
    unfold idsOf
    rcases List.mem_cons.1 hx with rfl | hx
    · exact List.mem_append_left _ hi
    · exact List.mem_append_right _ (mem_idsOf hx hi)
/-- The objects stand. -/
def keep (fl : List Nat) (o o' : List Obj) : Prop := ∀ id, id ∈ fl → o'[id]? = o[id]?
theorem keep.mono {fl gl : List Nat} {o o' : List Obj} (h : keep fl o o') (k : ∀ i, i ∈ gl → i ∈ fl) : keep gl o o' := fun i hi => h i (k i hi)
theorem keep.refl (fl : List Nat) (o : List Obj) : keep fl o o := fun _ _ => rfl

mutual
theorem live_keep {o o' : List Obj} : ∀ v : AV, keep (ids v) o o' → live o' v = live o v
  | .row id _ _ _, h => by simp only [live, h id (by simp [ids])]
  | .ptr id _, h => by simp only [live, h id (by simp [ids])]
  | .eptr id _ _ _, h => by simp only [live, h id (by simp [ids])]
  | .agg l, h => by simp only [live]; exact liveL_keep l (h.mono fun i hi => by simpa [ids] using hi)
  | .tup l, h => by simp only [live]; exact liveL_keep l (h.mono fun i hi => by simpa [ids] using hi)
  | .fn _ l m, h => by
    simp only [live]
    rw [liveL_keep l (h.mono fun i hi => by simp [ids, hi]), liveL_keep m (h.mono fun i hi => by simp [ids, hi])]
  | .undef, _ => rfl | .int .., _ => rfl | .bool _, _ => rfl | .str _, _ => rfl | .sl .., _ => rfl | .ro _, _ => rfl | .nils, _ => rfl | .nilp, _ => rfl | .nilf, _ => rfl | .nili, _ => rfl
theorem liveL_keep {o o' : List Obj} : ∀ l : List AV, keep (idsL l) o o' → liveL o' l = liveL o l
  | [], _ => rfl
  | v :: r, h => by
    simp only [liveL]
    rw [live_keep v (h.mono fun i hi => by simp [idsL, hi]), liveL_keep r (h.mono fun i hi => by simp [idsL, hi])]
end
section
variable {TB : TypeId → TI} {o o' : List Obj} {t t' : Fr} {call : FuncId → List AV → List Obj → (AV → List Obj → Prop) → Prop}
theorem cellsAt_keep {v : AV} (h : keep (ids v) o o') : cellsAt o' v = cellsAt o v := by
  cases v <;> simp only [cellsAt]
  rw [h _ (by simp [ids])]
theorem cellOk_keep {v : AV} (h : keep (ids v) o o') : cellOk o' v = cellOk o v := by
  have := live_keep v h
  cases v <;> simp only [cellOk] at this ⊢ <;> first | rfl | exact this
theorem buildCells_keep {fs : List (Nat × TypeId)} : ∀ {ps : List (Nat × Operand)} {cs : List AV}, keep (idsOf t (ps.map (·.2))) o o' → buildCells TB o' fs t cs ps = buildCells TB o fs t cs ps
  | [], cs, _ => rfl
  | (i, x) :: r, cs, h => by
    have h1 : keep (ids (ev t x)) o o' := h.mono fun i hi => by simp [idsOf, hi]
    have h2 : keep (idsOf t (r.map (·.2))) o o' := h.mono fun i hi => by simp [idsOf, hi]
    simp only [buildCells]
    split
    · rw [cellOk_keep h1, buildCells_keep h2]
    · rfl
/-- THE OBJECTS THAT IT LOOKS AT. -/
theorem rd_keep {op : Op} (h : keep (opIds op t) o o') (K : AV → Prop) : rdP TB op t o' K = rdP TB op t o K := by
  cases op with
  | move x => rfl
  | assign x => rfl
  | pick a b c => rfl
  | binOp b ty x y tz => rfl
  | unOp u ty x => cases u <;> rfl
  | build ty ps =>
    have h1 : keep (idsOf t (ps.toList.map (·.2))) o o' := h
    simp only [rdP, buildCells_keep h1]
  | load ty x =>
    have h1 : keep (ids (ev t x)) o o' := h.mono fun i hi => by simp [opIds, bare, idsOf, Op.operands, hi]
    simp only [rdP]
    generalize ev t x = v at h1
    have h2 := cellsAt_keep h1
    cases v <;> simp only at h2 ⊢ <;> first | rfl | rw [h2] | rw [h1 _ (by simp [ids])]
  | nilCheck x =>
    have h1 : keep (ids (ev t x)) o o' := h.mono fun i hi => by simp [opIds, bare, idsOf, Op.operands, hi]
    simp only [rdP]
    generalize ev t x = v at h1
    have h2 := live_keep v h1
    cases v <;> first | rfl | (simp only; rw [h2])
  | fieldAddr ty x f =>
    have h1 : keep (ids (ev t x)) o o' := h.mono fun i hi => by simp [opIds, bare, idsOf, Op.operands, hi]
    simp only [rdP]
    generalize ev t x = v at h1
    have h2 := live_keep v h1
    cases v <;> first | rfl | (simp only; rw [h2])
  | indexAddr ty x i =>
    have h1 : keep (ids (ev t x)) o o' := h.mono fun i hi => by simp [opIds, bare, idsOf, Op.operands, hi]
    simp only [rdP]
    generalize ev t x = v at h1
    have h2 := live_keep v h1
    generalize (TB ty).k = k1
    generalize ev t i = u
    cases k1 <;> cases v <;> cases u <;> first | rfl | (simp only; rw [h2])
  | index ty x i => rfl
  | convert s d x =>
    have h1 : keep (ids (ev t x)) o o' := h.mono fun i hi => by simp [opIds, bare, idsOf, Op.operands, hi]
    simp only [rdP]
    generalize ev t x = v at h1
    generalize (TB s).k = k1
    generalize (TB d).k = k2
    cases k1 <;> cases v <;> cases k2 <;> first | rfl | (simp only; rw [h1 _ (by simp [ids])])
  | slice ty x lo hi mx =>
    have h1 : keep (ids (ev t x)) o o' := h.mono fun i hi => by simp [opIds, bare, idsOf, Op.operands, hi]
    cases mx with
    | some m => rfl
    | none =>
      simp only [rdP]
      generalize ev t x = v at h1
      have h2 := live_keep v h1
      generalize (TB ty).k = k1
      cases k1 <;> cases v <;> first | rfl | (simp only; rw [h2])
  | extract x i =>
    have h1 : keep (ids (ev t x)) o o' := h.mono fun i hi => by simp [opIds, bare, idsOf, Op.operands, hi]
    simp only [rdP]
    generalize ev t x = v at h1
    cases v with
    | tup l =>
      simp only
      rw [liveL_keep l (h1.mono fun i hi => by simpa [ids] using hi)]
    | _ => rfl
  | makeFunc fn first cap =>
    cases fn with
    | func f =>
      have hl : ∀ (xs : List Operand), keep (idsOf t xs) o o' → liveL o' (xs.map (ev t)) = liveL o (xs.map (ev t)) := by
        intro xs hk
        refine liveL_keep _ (hk.mono fun i hi => ?_)
        induction xs with
        | nil => exact hi
        | cons x r ih =>
          simp only [List.map_cons, idsL, List.mem_append] at hi
          simp only [idsOf, List.mem_append]
          rcases hi with hi | hi
          · exact .inl hi
          · exact .inr (ih (hk.mono fun i hi => by simp [idsOf, hi]) hi)
      have h0 : keep (idsOf t (first.toList ++ cap.toList)) o o' := by simpa [opIds, bare, Op.operands] using h
      have ha : ∀ (l m : List Operand), idsOf t (l ++ m) = idsOf t l ++ idsOf t m := by
        intro l m
        induction l with
        | nil => rfl
        | cons x r ih => simp [idsOf, ih]
      rw [ha] at h0
      simp only [rdP]
      rw [hl _ (h0.mono fun i hi => List.mem_append_left _ hi), hl _ (h0.mono fun i hi => List.mem_append_right _ hi)]
    | _ => rfl
  | call c =>
    obtain ⟨callee, args, ats⟩ := c
    cases callee with
    | builtin b =>
      cases b with
      | len =>
        have h0 : keep (idsOf t args.toList) o o' := by simpa [opIds, bare, Op.operands, Call.operands] using h
        simp only [rdP]
        split
        all_goals first | rfl | skip
        rename_i id sz off n ty e1 e2
        have : ∀ l : List Operand, l.map (ev t) = [.row id sz off n] → keep (idsOf t l) o o' → live o' (.row id sz off n) = live o (.row id sz off n) := by
          intro l hl hk
          cases l with
          | nil => cases hl
          | cons x r =>
            simp only [List.map_cons, List.cons.injEq] at hl
            refine live_keep _ (hk.mono fun i hi => ?_)
            rw [← hl.1] at hi
            simp [idsOf, hi]
        rw [this _ e1 h0]
      | _ => rfl
    | _ => rfl
  | _ => rfl
end
end Go.Proofs.YtbbgojaloebknaaDoor.Vc
