/- Part T of the engine: contracts of functions that take and give data. -/
import Derived.Test.YtbbgojaloebknaaDoorVcS
namespace Go.Proofs.YtbbgojaloebknaaDoor.Vc
mutual
/-- A value as data: local rows are looked at as slices that are only read. -/
def viewV (o : List Obj) : AV → Option (AV × Bool × Prop)
  | .row id sz off len => match o[id]? with
    | some (.row s n f) => cond (Nat.beq s sz) (some (.sl sz len fun i => f (off + i), true, off + len ≤ n)) none
    | _ => none
  | .ptr .. | .eptr .. => none
  | .agg l => match viewL o l with
    | some (l, b, p) => some (.agg l, b, p)
    | none => none
  | .tup l => match viewL o l with
    | some (l, b, p) => some (.tup l, b, p)
    | none => none
  | .fn f c d => match viewL o c, viewL o d with
    | some (c, b, p), some (d, b', q) => some (.fn f c d, b || b', p ∧ q)
    | _, _ => none
  | .undef => some (.undef, false, True)
  | .int k n => some (.int k n, false, True)
  | .bool b => some (.bool b, false, True)
  | .str s => some (.str s, false, True)
  | .sl s n f => some (.sl s n f, false, True)
  | .ro cs => some (.ro cs, false, True)
  | .nils => some (.nils, false, True)
  | .nilp => some (.nilp, false, True)
  | .nilf => some (.nilf, false, True)
  | .nili => some (.nili, false, True)
def viewL (o : List Obj) : List AV → Option (List AV × Bool × Prop)
  | [] => some ([], false, True)
  | v :: r => match viewV o v, viewL o r with
    | some (v, false, _), some (r, b', q) => some (v :: r, b', q)
    | some (v, true, p), some (r, _, q) => some (v :: r, true, p ∧ q)
    | _, _ => none
end
mutual
/-- No memory is named. -/
def scalV : AV → Bool
  | .sl .. | .ro .. | .row .. | .ptr .. | .eptr .. => false
  | .agg l => scalL l
  | .tup l => scalL l
  | .fn _ c d => scalL c && scalL d
  | _ => true
def scalL : List AV → Bool
  | [] => true
  | v :: r => scalV v && scalL r
end
theorem scalL_iff : ∀ {l : List AV}, scalL l = true ↔ ∀ v ∈ l, scalV v = true
  | [] => by simp [scalL]
  | v :: r => by simp [scalL, scalL_iff (l := r)]
def nor : Nat → Option Nat := fun _ => none
/-- Data, and structs and closures of data. -/
inductive PV (R : Nat → Prop) (w : World) : AV → Value → Prop
  | data {v x} (h : DR R w v x) : PV R w v x
  | undef (x) : PV R w .undef x
  | agg (l : List AV) (xs : Array Value) (h1 : xs.size = l.length) (h2 : ∀ j, j < l.length → PV R w (l.getD j .undef) (xs.getD j Go.undef)) : PV R w (.agg l) (.agg xs)
  | tup (l : List AV) (xs : Array Value) (h1 : xs.size = l.length) (h2 : ∀ j, j < l.length → PV R w (l.getD j .undef) (xs.getD j Go.undef)) : PV R w (.tup l) (.tuple xs)
  | fn (f : FuncId) (l m : List AV) (xs ys : Array Value) (h1 : xs.size = l.length) (h2 : ∀ j, j < l.length → PV R w (l.getD j .undef) (xs.getD j Go.undef))
      (h3 : ys.size = m.length) (h4 : ∀ j, j < m.length → PV R w (m.getD j .undef) (ys.getD j Go.undef)) : PV R w (.fn f l m) (.func (.func f) xs ys)
section
variable {P : Program} {TB : TypeId → TI} {ρ : Nat → Option Nat} {o : List Obj} {R R' : Nat → Prop} {w w' : World} {Gl : List (Nat × Go.Obj)} {call : FuncId → List AV → List Obj → (AV → List Obj → Prop) → Prop} {n m : Nat}
/-- All that is ours is looked at only. -/
def Rall (R : Nat → Prop) (ρ : Nat → Option Nat) : Nat → Prop := fun b => R b ∨ ∃ id, ρ id = some b

mutual
theorem view_VR (hh : HR Gl o ρ R w) : ∀ (v u : AV) (b : Bool) (p : Prop), viewV o v = some (u, b, p) → p → ∀ x, TR ρ o R w v x → PV (Rall R ρ) w u x ∧ (b = false → PV R w u x)
  | .row id sz off len, u, b, p, h, hp, x, ht => by
    simp only [viewV] at h
    split at h
    · rename_i s k f e
      cases hs : Nat.beq s sz with
      | false => rw [hs] at h; cases h
      | true =>
        rw [hs] at h
        simp only [cond_true, Option.some.injEq, Prod.mk.injEq] at h
        obtain ⟨rfl, rfl, rfl⟩ := h
        refine ⟨.data ((frozen_DR hh ht e hs hp).go (fun c hc => ?_) fun _ _ => rfl), fun q => by cases q⟩
        rcases hc with hc | hc
        · exact .inl hc
        · exact .inr ⟨_, hc⟩
    · cases h
  | .ptr .., _, _, _, h, _, _, _ => by simp [viewV] at h
  | .eptr .., _, _, _, h, _, _, _ => by simp [viewV] at h
  | .agg l, u, b, p, h, hp, x, ht => by
    simp only [viewV] at h
    split at h
    · rename_i l' b' p' e
      simp only [Option.some.injEq, Prod.mk.injEq] at h
      obtain ⟨rfl, rfl, rfl⟩ := h
      obtain ⟨h1, h2, h3⟩ := viewL_VR hh l l' b' p' e hp
      have := ht.vr (by simpa only [live] using h3)
      cases this with
      | data hd => cases hd
      | agg _ xs k1 k2 =>
        have k3 : ∀ j, j < l.length → TR ρ o R w (l.getD j .undef) (xs.getD j Go.undef) := fun j hj => .of (liveL_iff.1 h3 _ (getD_mem hj)) (k2 j hj)
        exact ⟨.agg _ _ (k1.trans h1.symm) fun j hj => (h2 j (h1 ▸ hj) _ (k3 j (h1 ▸ hj))).1, fun q => .agg _ _ (k1.trans h1.symm) fun j hj => (h2 j (h1 ▸ hj) _ (k3 j (h1 ▸ hj))).2 q⟩
    · cases h
  | .tup l, u, b, p, h, hp, x, ht => by
    simp only [viewV] at h
    split at h
    · rename_i l' b' p' e
      simp only [Option.some.injEq, Prod.mk.injEq] at h
      obtain ⟨rfl, rfl, rfl⟩ := h
      obtain ⟨h1, h2, h3⟩ := viewL_VR hh l l' b' p' e hp
      have := ht.vr (by simpa only [live] using h3)
      cases this with
      | data hd => cases hd
      | tup _ xs k1 k2 =>
        have k3 : ∀ j, j < l.length → TR ρ o R w (l.getD j .undef) (xs.getD j Go.undef) := fun j hj => .of (liveL_iff.1 h3 _ (getD_mem hj)) (k2 j hj)
        exact ⟨.tup _ _ (k1.trans h1.symm) fun j hj => (h2 j (h1 ▸ hj) _ (k3 j (h1 ▸ hj))).1, fun q => .tup _ _ (k1.trans h1.symm) fun j hj => (h2 j (h1 ▸ hj) _ (k3 j (h1 ▸ hj))).2 q⟩
    · cases h
  | .fn f c d, u, b, p, h, hp, x, ht => by
    simp only [viewV] at h
    split at h
    · rename_i c' b1 p1 d' b2 p2 e1 e2
      simp only [Option.some.injEq, Prod.mk.injEq] at h
      obtain ⟨rfl, rfl, rfl⟩ := h
      obtain ⟨g1, g2, g3⟩ := viewL_VR hh c c' b1 p1 e1 hp.1
      obtain ⟨h1, h2, h3⟩ := viewL_VR hh d d' b2 p2 e2 hp.2
      have := ht.vr (by simp only [live, g3, h3]; rfl)
      cases this with
      | data hd => cases hd
      | fn _ _ _ xs ys k1 k2 q1 q2 =>
        have k3 : ∀ j, j < c.length → TR ρ o R w (c.getD j .undef) (xs.getD j Go.undef) := fun j hj => .of (liveL_iff.1 g3 _ (getD_mem hj)) (k2 j hj)
        have q3 : ∀ j, j < d.length → TR ρ o R w (d.getD j .undef) (ys.getD j Go.undef) := fun j hj => .of (liveL_iff.1 h3 _ (getD_mem hj)) (q2 j hj)
        refine ⟨.fn _ _ _ _ _ (k1.trans g1.symm) (fun j hj => (g2 j (g1 ▸ hj) _ (k3 j (g1 ▸ hj))).1) (q1.trans h1.symm) fun j hj => (h2 j (h1 ▸ hj) _ (q3 j (h1 ▸ hj))).1, fun q => ?_⟩
        rw [Bool.or_eq_false_iff] at q
        exact .fn _ _ _ _ _ (k1.trans g1.symm) (fun j hj => (g2 j (g1 ▸ hj) _ (k3 j (g1 ▸ hj))).2 q.1) (q1.trans h1.symm) fun j hj => (h2 j (h1 ▸ hj) _ (q3 j (h1 ▸ hj))).2 q.2
    · cases h
  | .undef, u, b, p, h, _, x, _ => by
    simp only [viewV, Option.some.injEq, Prod.mk.injEq] at h
    obtain ⟨rfl, _, _⟩ := h
    exact ⟨.undef x, fun _ => .undef x⟩
  | .int k i, u, b, p, h, _, x, ht => by
    simp only [viewV, Option.some.injEq, Prod.mk.injEq] at h
    obtain ⟨rfl, _, _⟩ := h
    cases ht.vr rfl with | data hd => exact ⟨.data (hd.go (fun _ q => .inl q) fun _ _ => rfl), fun _ => .data hd⟩
  | .bool i, u, b, p, h, _, x, ht => by
    simp only [viewV, Option.some.injEq, Prod.mk.injEq] at h
    obtain ⟨rfl, _, _⟩ := h
    cases ht.vr rfl with | data hd => exact ⟨.data (hd.go (fun _ q => .inl q) fun _ _ => rfl), fun _ => .data hd⟩
  | .str i, u, b, p, h, _, x, ht => by
    simp only [viewV, Option.some.injEq, Prod.mk.injEq] at h
    obtain ⟨rfl, _, _⟩ := h
    cases ht.vr rfl with | data hd => exact ⟨.data (hd.go (fun _ q => .inl q) fun _ _ => rfl), fun _ => .data hd⟩
  | .sl s i f, u, b, p, h, _, x, ht => by
    simp only [viewV, Option.some.injEq, Prod.mk.injEq] at h
    obtain ⟨rfl, _, _⟩ := h
    cases ht.vr rfl with | data hd => exact ⟨.data (hd.go (fun _ q => .inl q) fun _ _ => rfl), fun _ => .data hd⟩
  | .ro cs, u, b, p, h, _, x, ht => by
    simp only [viewV, Option.some.injEq, Prod.mk.injEq] at h
    obtain ⟨rfl, _, _⟩ := h
    cases ht.vr rfl with | data hd => exact ⟨.data (hd.go (fun _ q => .inl q) fun _ _ => rfl), fun _ => .data hd⟩
  | .nils, u, b, p, h, _, x, ht => by
    simp only [viewV, Option.some.injEq, Prod.mk.injEq] at h
    obtain ⟨rfl, _, _⟩ := h
    cases ht.vr rfl with | data hd => exact ⟨.data (hd.go (fun _ q => .inl q) fun _ _ => rfl), fun _ => .data hd⟩
  | .nilp, u, b, p, h, _, x, ht => by
    simp only [viewV, Option.some.injEq, Prod.mk.injEq] at h
    obtain ⟨rfl, _, _⟩ := h
    cases ht.vr rfl with | data hd => exact ⟨.data (hd.go (fun _ q => .inl q) fun _ _ => rfl), fun _ => .data hd⟩
  | .nilf, u, b, p, h, _, x, ht => by
    simp only [viewV, Option.some.injEq, Prod.mk.injEq] at h
    obtain ⟨rfl, _, _⟩ := h
    cases ht.vr rfl with | data hd => exact ⟨.data (hd.go (fun _ q => .inl q) fun _ _ => rfl), fun _ => .data hd⟩
  | .nili, u, b, p, h, _, x, ht => by
    simp only [viewV, Option.some.injEq, Prod.mk.injEq] at h
    obtain ⟨rfl, _, _⟩ := h
    cases ht.vr rfl with | data hd => exact ⟨.data (hd.go (fun _ q => .inl q) fun _ _ => rfl), fun _ => .data hd⟩
theorem viewL_VR (hh : HR Gl o ρ R w) : ∀ (l k : List AV) (b : Bool) (p : Prop), viewL o l = some (k, b, p) → p → k.length = l.length ∧ (∀ j, j < l.length → ∀ x, TR ρ o R w (l.getD j .undef) x → PV (Rall R ρ) w (k.getD j .undef) x ∧ (b = false → PV R w (k.getD j .undef) x)) ∧ liveL o l = true
  | [], k, b, p, h, _ => by
    simp only [viewL, Option.some.injEq, Prod.mk.injEq] at h
    obtain ⟨rfl, _, _⟩ := h
    exact ⟨rfl, fun j hj => absurd hj (Nat.not_lt_zero _), rfl⟩
  | v :: r, k, b, p, h, hp => by
    simp only [viewL] at h
    split at h
    · rename_i v' p1 r' b' q e1 e2
      simp only [Option.some.injEq, Prod.mk.injEq] at h
      obtain ⟨rfl, rfl, rfl⟩ := h
      obtain ⟨h1, h2, h3⟩ := viewL_VR hh r r' b' q e2 hp
      have hp1 : p1 := view_true v v' p1 e1
      refine ⟨by simp [h1], fun j hj x hx => ?_, ?_⟩
      · cases j with
        | zero =>
          have := view_VR hh v v' false p1 e1 hp1 x (by simpa using hx)
          exact ⟨by simpa using this.1, fun _ => by simpa using this.2 rfl⟩
        | succ j =>
          have := h2 j (by simpa using hj) x (by simpa using hx)
          exact ⟨by simpa using this.1, fun q => by simpa using this.2 q⟩
      · simp only [liveL, h3, view_live v v' false p1 e1]
        rfl
    · rename_i v' p1 r' b' q e1 e2
      simp only [Option.some.injEq, Prod.mk.injEq] at h
      obtain ⟨rfl, rfl, rfl⟩ := h
      obtain ⟨h1, h2, h3⟩ := viewL_VR hh r r' b' q e2 hp.2
      refine ⟨by simp [h1], fun j hj x hx => ?_, ?_⟩
      · refine ⟨?_, fun q => by cases q⟩
        cases j with
        | zero => simpa using (view_VR hh v v' true p1 e1 hp.1 x (by simpa using hx)).1
        | succ j => simpa using (h2 j (by simpa using hj) x (by simpa using hx)).1
      · simp only [liveL, h3, view_live v v' true p1 e1]
        rfl
    · cases h
theorem view_live : ∀ (v u : AV) (b : Bool) (p : Prop), viewV o v = some (u, b, p) → live o v = true
  | .row id sz off len, u, b, p, h => by
    simp only [viewV] at h
    simp only [live]
    split at h
    · rename_i s k f e
      cases hs : Nat.beq s sz with
      | false => rw [hs] at h; cases h
      | true => rw [e]; exact hs
    · cases h
  | .ptr .., _, _, _, h => by simp [viewV] at h
  | .eptr .., _, _, _, h => by simp [viewV] at h
  | .agg l, u, b, p, h => by
    simp only [viewV] at h
    split at h
    · rename_i e; simpa only [live] using viewL_live l _ _ _ e
    · cases h
  | .tup l, u, b, p, h => by
    simp only [viewV] at h
    split at h
    · rename_i e; simpa only [live] using viewL_live l _ _ _ e
    · cases h
  | .fn _ l k, u, b, p, h => by
    simp only [viewV] at h
    split at h
    · rename_i e1 e2
      simp only [live, viewL_live l _ _ _ e1, viewL_live k _ _ _ e2]
      rfl
    · cases h
  | .undef, _, _, _, _ => rfl | .int .., _, _, _, _ => rfl | .bool _, _, _, _, _ => rfl | .str _, _, _, _, _ => rfl | .sl .., _, _, _, _ => rfl | .ro _, _, _, _, _ => rfl | .nils, _, _, _, _ => rfl | .nilp, _, _, _, _ => rfl | .nilf, _, _, _, _ => rfl | .nili, _, _, _, _ => rfl
theorem viewL_live : ∀ (l k : List AV) (b : Bool) (p : Prop), viewL o l = some (k, b, p) → liveL o l = true
  | [], _, _, _, _ => rfl
  | v :: r, k, b, p, h => by
    simp only [viewL] at h
    split at h
    · rename_i e1 e2; simp only [liveL, view_live v _ _ _ e1, viewL_live r _ _ _ e2]; rfl
    · rename_i e1 e2; simp only [liveL, view_live v _ _ _ e1, viewL_live r _ _ _ e2]; rfl
    · cases h
/-- Where no row was looked at, nothing is to be shown. -/
theorem view_true : ∀ (v u : AV) (p : Prop), viewV o v = some (u, false, p) → p
  | .row id sz off len, u, p, h => by
    simp only [viewV] at h
    split at h
    · rename_i s k f e
      cases hs : Nat.beq s sz <;> rw [hs] at h <;> simp at h
    · cases h
  | .ptr .., _, _, h => by simp [viewV] at h
  | .eptr .., _, _, h => by simp [viewV] at h
  | .agg l, u, p, h => by
    simp only [viewV] at h
    split at h
    · rename_i l' b' p' e
      simp only [Option.some.injEq, Prod.mk.injEq] at h
      obtain ⟨_, rfl, rfl⟩ := h
      exact viewL_true l _ _ e
    · cases h
  | .tup l, u, p, h => by
    simp only [viewV] at h
    split at h
    · rename_i l' b' p' e
      simp only [Option.some.injEq, Prod.mk.injEq] at h
      obtain ⟨_, rfl, rfl⟩ := h
      exact viewL_true l _ _ e
    · cases h
  | .fn _ l k, u, p, h => by
    simp only [viewV] at h
    split at h
    · rename_i c' b1 p1 d' b2 p2 e1 e2
      simp only [Option.some.injEq, Prod.mk.injEq, Bool.or_eq_false_iff] at h
      obtain ⟨_, ⟨rfl, rfl⟩, rfl⟩ := h
      exact ⟨viewL_true l _ _ e1, viewL_true k _ _ e2⟩
    · cases h
  | .undef, _, _, h | .int .., _, _, h | .bool _, _, _, h | .str _, _, _, h | .sl .., _, _, h | .ro _, _, _, h | .nils, _, _, h | .nilp, _, _, h | .nilf, _, _, h | .nili, _, _, h => by
    simp only [viewV, Option.some.injEq, Prod.mk.injEq] at h
    obtain ⟨_, _, rfl⟩ := h
    trivial
theorem viewL_true : ∀ (l k : List AV) (p : Prop), viewL o l = some (k, false, p) → p
  | [], k, p, h => by
    simp only [viewL, Option.some.injEq, Prod.mk.injEq] at h
    obtain ⟨_, _, rfl⟩ := h
    trivial
  | v :: r, k, p, h => by
    simp only [viewL] at h
    split at h
    · rename_i v' p1 r' b' q e1 e2
      simp only [Option.some.injEq, Prod.mk.injEq] at h
      obtain ⟨_, rfl, rfl⟩ := h
      exact viewL_true r _ _ e2
    · rename_i v' p1 r' b' q e1 e2
      simp at h
    · cases h
end
end
end Go.Proofs.YtbbgojaloebknaaDoor.Vc
