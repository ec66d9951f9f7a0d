/- Part O of the engine: an operation looks at its operands alone; a reading one yields one value. -/
import Derived.Test.YtbbgojaloebknaaDoorVcN
namespace Go.Proofs.YtbbgojaloebknaaDoor.Vc
section
variable {TB : TypeId → TI} {o o' : List Obj} {t t' : Fr} {call : FuncId → List AV → List Obj → (AV → List Obj → Prop) → Prop}

def agree (t t' : Fr) (l : List Operand) : Prop := ∀ x, x ∈ l → ev t' x = ev t x
theorem agree.map {l : List Operand} (h : agree t t' l) : l.map (ev t') = l.map (ev t) := List.map_congr_left fun x hx => h x hx
theorem buildCells_ev {fs : List (Nat × TypeId)} : ∀ {ps : List (Nat × Operand)} {cs : List AV}, agree t t' (ps.map (·.2)) → buildCells TB o fs t' cs ps = buildCells TB o fs t cs ps
  | [], cs, _ => rfl
  | (i, x) :: r, cs, h => by
    have h1 : ev t' x = ev t x := h x (by simp)
    have h2 : agree t t' (r.map (·.2)) := fun y hy => h y (by simp only [List.map_cons, List.mem_cons]; exact .inr hy)
    simp only [buildCells, h1]
    split
    · rw [buildCells_ev h2]
    · rfl
theorem elemsOf_ev {n : Nat} : ∀ {ps : List (Nat × Operand)} {j : Nat}, agree t t' (ps.map (·.2)) → elemsOf o n t' ps j = elemsOf o n t ps j
  | [], j, _ => rfl
  | (i, x) :: r, j, h => by
    have h1 : ev t' x = ev t x := h x (by simp)
    have h2 : agree t t' (r.map (·.2)) := fun y hy => h y (by simp only [List.map_cons, List.mem_cons]; exact .inr hy)
    simp only [elemsOf, h1, elemsOf_ev h2]
theorem bound_ev {x : Option Operand} {d : Int} (h : agree t t' x.toList) : bound t' x d = bound t x d := by
  cases x with
  | none => rfl
  | some x => simp only [bound, h x (by simp)]
theorem rd_ev {op : Op} (h : agree t t' op.operands.toList) (K : AV → Prop) : rdP TB op t' o K = rdP TB op t o K := by
  cases op with
  | move x => simp only [rdP, h x (by simp [Op.operands])]
  | assign x => simp only [rdP, h x (by simp [Op.operands])]
  | pick a b c => simp only [rdP, h a (by simp [Op.operands]), h b (by simp [Op.operands]), h c (by simp [Op.operands])]
  | binOp b ty x y tz => simp only [rdP, h x (by simp [Op.operands]), h y (by simp [Op.operands])]
  | unOp u ty x => cases u <;> simp only [rdP, h x (by simp [Op.operands])]
  | build ty ps => simp only [rdP, buildCells_ev (TB := TB) (o := o) (ps := ps.toList) h]
  | load ty x => simp only [rdP, h x (by simp [Op.operands])]
  | nilCheck x => simp only [rdP, h x (by simp [Op.operands])]
  | fieldAddr ty x f => simp only [rdP, h x (by simp [Op.operands])]
  | indexAddr ty x i => simp only [rdP, h x (by simp [Op.operands]), h i (by simp [Op.operands])]
  | index ty x i => simp only [rdP, h x (by simp [Op.operands]), h i (by simp [Op.operands])]
  | convert s d x => simp only [rdP, h x (by simp [Op.operands])]
  | slice ty x lo hi mx =>
    cases mx with
    | some m => rfl
    | none =>
      have h1 : ∀ d, bound t' lo d = bound t lo d := fun d => bound_ev fun y hy => h y (by simp [Op.operands] at hy ⊢; simp [hy])
      have h2 : ∀ d, bound t' hi d = bound t hi d := fun d => bound_ev fun y hy => h y (by simp [Op.operands] at hy ⊢; simp [hy])
      simp only [rdP, h x (by simp [Op.operands]), h1, h2]
  | extract x i => simp only [rdP, h x (by simp [Op.operands])]
  | makeFunc fn first cap =>
    cases fn with
    | func f =>
      have h1 : agree t t' first.toList := fun y hy => h y (by simp [Op.operands] at hy ⊢; exact .inl hy)
      have h2 : agree t t' cap.toList := fun y hy => h y (by simp [Op.operands] at hy ⊢; exact .inr hy)
      simp only [rdP, h1.map, h2.map]
    | _ => rfl
  | call c =>
    obtain ⟨callee, args, ats⟩ := c
    cases callee with
    | builtin b =>
      have h1 : agree t t' args.toList := fun y hy => h y (by simpa [Op.operands, Call.operands] using hy)
      cases b <;> simp only [rdP, h1.map]
    | _ => rfl
  | _ => rfl
theorem ef_ev {op : Op} (h : agree t t' op.operands.toList) (K : AV → List Obj → Prop) : efP TB call op t' o K = efP TB call op t o K := by
  cases op with
  | box ty x => simp only [efP, h x (by simp [Op.operands])]
  | alloc ty => rfl
  | store ty x y => simp only [efP, h x (by simp [Op.operands]), h y (by simp [Op.operands])]
  | buildSlice ty n ps => simp only [efP, elemsOf_ev (o := o) (ps := ps.toList) h]
  | makeSlice ty x y => simp only [efP, h x (by simp [Op.operands]), h y (by simp [Op.operands])]
  | call c =>
    obtain ⟨callee, args, ats⟩ := c
    cases callee with
    | builtin b =>
      have h1 : agree t t' args.toList := fun y hy => h y (by simpa [Op.operands, Call.operands] using hy)
      cases b <;> simp only [efP, h1.map]
    | value x =>
      have h1 : agree t t' args.toList := fun y hy => h y (by simp only [Op.operands, Call.operands, Array.toList_append, List.mem_append]; exact .inr hy)
      cases x with
      | func f => simp only [efP, h1.map]
      | tmp z =>
        have h2 : t' z = t z := h (.tmp z) (by simp [Op.operands, Call.operands])
        simp only [efP, h1.map, h2]
      | _ => rfl
    | _ => rfl
  | _ => rfl
theorem Br.mono {x : Bool} {A B A' B' : Prop} (h : Br x A B) (ha : A → A') (hb : B → B') : Br x A' B' := ⟨fun q => ha (h.t q), fun q => hb (h.f q)⟩
theorem loadV_det {ti : TI} {cs : List AV} {K : AV → Prop} (h : loadV ti cs K) : ∃ v, K v ∧ ∀ K' : AV → Prop, K' v → loadV ti cs K' := by
  unfold loadV at h
  split at h
  · rename_i fs e
    obtain ⟨hb, h⟩ := of_cond_true h
    exact ⟨_, h, fun K' h' => by unfold loadV; rw [e]; simp only [hb, cond_true]; exact h'⟩
  · exact h.elim
  · rename_i e1 e2
    split at h
    · exact ⟨_, h, fun K' h' => by
        unfold loadV
        split
        · rename_i fs e; exact absurd e (e1 _)
        · rename_i e; exact absurd e e2
        · exact h'⟩
    · exact h.elim
theorem Wr.det {k : IntKind} {x : Int} {K : AV → Prop} (h : Wr k x K) : ∃ v, K v ∧ ∀ K' : AV → Prop, K' v → Wr k x K' := by
  cases h with
  | ex h hK => exact ⟨_, hK, fun K' h' => .ex h h'⟩
  | wr hK => exact ⟨_, hK, fun K' h' => .wr h'⟩
theorem binP_det {op : BinOp} {x y : AV} {K : AV → Prop} (h : binP op x y K) : ∃ v, K v ∧ ∀ K' : AV → Prop, K' v → binP op x y K' := by
  unfold binP at h
  split at h
  · cases op <;> simp only [binP] at h ⊢ <;> first
      | exact ⟨_, h.2, fun K' h' => ⟨h.1, h'⟩⟩
      | (obtain ⟨v, h1, h2⟩ := h.2.det
         exact ⟨v, h1, fun K' h' => ⟨h.1, h2 K' h'⟩⟩)
      | (obtain ⟨hb, h⟩ := of_cond_true h
         first
          | (obtain ⟨v, h1, h2⟩ := h.det
             exact ⟨v, h1, fun K' h' => by simp only [hb, cond_true]; exact h2 K' h'⟩)
          | (obtain ⟨v, h1, h2⟩ := h.2.det
             exact ⟨v, h1, fun K' h' => by simp only [hb, cond_true]; exact ⟨h.1, h2 K' h'⟩⟩)
          | exact ⟨_, h.2, fun K' h' => by simp only [hb, cond_true]; exact ⟨h.1, h'⟩⟩
          | exact ⟨_, h, fun K' h' => by simp only [hb, cond_true]; exact h'⟩)
  · cases op <;> simp only [binP] at h ⊢ <;> first
      | exact h.elim
      | exact ⟨_, h.2, fun K' h' => ⟨h.1, h'⟩⟩
      | exact ⟨_, h, fun K' h' => h'⟩
  · exact h.elim
theorem rd_det {op : Op} {K : AV → Prop} (h : rdP TB op t o K) : ∃ v, K v ∧ ∀ K' : AV → Prop, K' v → rdP TB op t o K' := by
  cases op with
  | move x => exact ⟨_, h, fun K' h' => h'⟩
  | assign x => exact ⟨_, h, fun K' h' => h'⟩
  | pick a b c =>
    simp only [rdP] at h ⊢
    split at h
    · rename_i x e
      cases x with
      | true => exact ⟨_, h.t rfl, fun K' h' => ⟨fun _ => h', fun q => (by cases q)⟩⟩
      | false => exact ⟨_, h.f rfl, fun K' h' => ⟨fun q => (by cases q), fun _ => h'⟩⟩
    · exact h.elim
  | binOp b ty x y tz =>
    simp only [rdP] at h ⊢
    split at h
    · rename_i xs ys e1 e2
      split at h <;> try exact h.elim
      all_goals
        split at h
        · exact ⟨_, h, fun K' h' => by first | exact h' | (simp [*]; done) | (simp only [*]; exact h')⟩
        · exact h.elim
    · rename_i p q e1 e2
      split at h <;> try exact h.elim
      all_goals exact ⟨_, h, fun K' h' => by first | exact h' | (simp [*]; done) | (simp only [*]; exact h')⟩
    · rename_i e1 e2
      obtain ⟨v, h1, h2⟩ := binP_det h
      exact ⟨v, h1, fun K' h' => h2 K' h'⟩
  | unOp u ty x =>
    cases u <;> simp only [rdP] at h ⊢ <;> try exact h.elim
    all_goals
      split at h
      · first | exact h.det | exact ⟨_, h, fun K' h' => h'⟩
      · exact h.elim
  | build ty ps =>
    simp only [rdP] at h ⊢
    split at h
    · split at h
      · exact ⟨_, h, fun K' h' => by first | exact h' | (simp [*]; done) | (simp only [*]; exact h')⟩
      · exact h.elim
    · exact h.elim
  | load ty x =>
    simp only [rdP] at h ⊢
    split at h
    · split at h
      · obtain ⟨h0, h⟩ := h
        obtain ⟨hb, h⟩ := of_cond_true h
        obtain ⟨v, h1, h2⟩ := loadV_det h
        exact ⟨v, h1, fun K' h' => by simp only [hb, cond_true]; exact ⟨h0, h2 K' h'⟩⟩
      · exact h.elim
    · rename_i e1
      split at h
      · obtain ⟨v, h1, h2⟩ := loadV_det h
        exact ⟨v, h1, fun K' h' => h2 K' h'⟩
      · exact h.elim
  | nilCheck x =>
    simp only [rdP] at h ⊢
    split at h
    · obtain ⟨hb, h⟩ := of_cond_true h
      exact ⟨_, h, fun K' h' => by simp only [hb, cond_true]; exact h'⟩
    · exact ⟨_, h, fun K' h' => h'⟩
    · obtain ⟨hb, h⟩ := of_cond_true h
      exact ⟨_, h, fun K' h' => by simp only [hb, cond_true]; exact h'⟩
    · exact h.elim
  | fieldAddr ty x f =>
    simp only [rdP] at h ⊢
    split at h
    · split at h
      · obtain ⟨hb, h⟩ := of_cond_false h
        simp only [hb, cond_false]
        split at h
        · exact ⟨_, h, fun K' h' => h'⟩
        · obtain ⟨hb, h⟩ := of_cond_true h
          exact ⟨_, h, fun K' h' => by simp only [hb, cond_true]; exact h'⟩
        · obtain ⟨hb, h⟩ := of_cond_true h
          exact ⟨_, h, fun K' h' => by simp only [hb, cond_true]; exact h'⟩
        · exact h.elim
      · exact h.elim
    · exact h.elim
  | indexAddr ty x i =>
    simp only [rdP] at h ⊢
    split at h
    · split at h
      · obtain ⟨h0, h⟩ := h
        obtain ⟨hb, h⟩ := of_cond_true h
        exact ⟨_, h, fun K' h' => by simp only [hb, cond_true]; exact ⟨h0, h'⟩⟩
      · obtain ⟨h0, h⟩ := h
        obtain ⟨hb, h⟩ := of_cond_true h
        exact ⟨_, h, fun K' h' => by simp only [hb, cond_true]; exact ⟨h0, h'⟩⟩
      · exact h.elim
    · exact h.elim
  | index ty x i =>
    simp only [rdP] at h ⊢
    split at h
    · exact ⟨_, h.2, fun K' h' => ⟨h.1, h'⟩⟩
    · exact h.elim
  | convert s d x =>
    simp only [rdP] at h ⊢
    split at h
    · exact h.det
    · exact ⟨_, h, fun K' h' => h'⟩
    · split at h
      · split at h
        · obtain ⟨hb, h⟩ := of_cond_true h
          exact ⟨_, h.2, fun K' h' => by simp only [hb, cond_true]; exact ⟨h.1, h'⟩⟩
        · exact h.elim
      · exact h.elim
    · exact h.elim
  | slice ty x lo hi mx =>
    cases mx with
    | some m => exact h.elim
    | none =>
      simp only [rdP] at h ⊢
      split at h
      · split at h
        · exact ⟨_, h.2, fun K' h' => ⟨h.1, h'⟩⟩
        · exact h.elim
      · split at h
        · obtain ⟨h0, h⟩ := h
          obtain ⟨hb, h⟩ := of_cond_true h
          exact ⟨_, h, fun K' h' => by simp only [hb, cond_true]; exact ⟨h0, h'⟩⟩
        · exact h.elim
      · split at h
        · obtain ⟨h0, h⟩ := h
          obtain ⟨hb, h⟩ := of_cond_true h
          exact ⟨_, h, fun K' h' => by simp only [hb, cond_true]; exact ⟨h0, h'⟩⟩
        · exact h.elim
      · exact h.elim
  | extract x i =>
    simp only [rdP] at h ⊢
    split at h
    · split at h
      · obtain ⟨hb, h⟩ := of_cond_true h
        exact ⟨_, h, fun K' h' => by simp only [hb, cond_true]; exact h'⟩
      · exact h.elim
    · exact h.elim
  | makeFunc fn first cap =>
    cases fn with
    | func f =>
      simp only [rdP] at h ⊢
      obtain ⟨hb, h⟩ := of_cond_true h
      exact ⟨_, h, fun K' h' => by simp only [hb, cond_true]; exact h'⟩
    | _ => exact h.elim
  | call c =>
    obtain ⟨callee, args, ats⟩ := c
    cases callee with
    | builtin b =>
      cases b with
      | len =>
        simp only [rdP] at h ⊢
        split at h
        · split at h
          · rename_i e1; exact ⟨_, h, fun K' h' => h'⟩
          · exact h.elim
        · split at h
          · obtain ⟨hb, h⟩ := of_cond_true h
            exact ⟨_, h, fun K' h' => by simp only [hb, cond_true]; exact h'⟩
          · exact h.elim
        · split at h
          · exact ⟨_, h, fun K' h' => h'⟩
          · exact h.elim
        · split at h
          · exact ⟨_, h, fun K' h' => h'⟩
          · exact h.elim
        · exact h.elim
      | max =>
        simp only [rdP] at h ⊢
        split at h
        · exact ⟨_, h, fun K' h' => h'⟩
        · exact h.elim
      | min =>
        simp only [rdP] at h ⊢
        split at h
        · exact ⟨_, h, fun K' h' => h'⟩
        · exact h.elim
      | _ => exact h.elim
    | _ => exact h.elim
  | _ => exact h.elim
end
end Go.Proofs.YtbbgojaloebknaaDoor.Vc
