/- Part R of the engine: what is known may be told anew. -/
import Derived.Test.YtbbgojaloebknaaDoorVcQ
namespace Go.Proofs.YtbbgojaloebknaaDoor.Vc
/-- How the world may go on, of the first m local objects and of all that is none of ours. -/
structure EK (m : Nat) (o : List Obj) (ρ : Nat → Option Nat) (R : Nat → Prop) (w : World) (o' : List Obj) (ρ' : Nat → Option Nat) (R' : Nat → Prop) (w' : World) : Prop where
  keep : ∀ id, id < m → match o'[id]? with
    | some (.box _) => (∃ cs, o[id]? = some (.box cs)) ∧ ρ' id = ρ id
    | some (.row sz _ _) => (∃ n f, o[id]? = some (.row sz n f)) ∧ ρ' id = ρ id
    | _ => True
  rmono : ∀ b, R b → R' b
  rnew : ∀ b, R' b → R b ∨ w.heap.size ≤ b ∨ ∃ id, ρ id = some b
  pnew : ∀ id b, ρ' id = some b → w.heap.size ≤ b ∨ ∃ j, ρ j = some b
  size : w.heap.size ≤ w'.heap.size
  same : ∀ b, b < w.heap.size → (∀ id, ρ id ≠ some b) → w'.heap[b]? = w.heap[b]?
  shape : ∀ (b : Nat) (xs : Array Value) (ty : TypeId), w.heap[b]? = some (.cells xs ty (0, 0)) → ∃ xs' : Array Value, w'.heap[b]? = some (.cells xs' ty (0, 0)) ∧ xs'.size = xs.size
  os : w'.os = w.os
  tape : w'.tape = w.tape
  output : w'.output = w.output
theorem EX.ek {o ρ R w o' ρ' R' w'} (h : EX o ρ R w o' ρ' R' w') {m : Nat} (hm : m ≤ o.length) : EK m o ρ R w o' ρ' R' w' :=
  ⟨fun id hid => h.keep id (Nat.lt_of_lt_of_le hid hm), h.rmono, h.rnew, h.pnew, h.size, h.same, h.shape, h.os, h.tape, h.output⟩
theorem EK.trans {m : Nat} {o ρ R w o1 ρ1 R1 w1 o2 ρ2 R2 w2} (h : EK m o ρ R w o1 ρ1 R1 w1) (k : EK m o1 ρ1 R1 w1 o2 ρ2 R2 w2) : EK m o ρ R w o2 ρ2 R2 w2 where
  keep id hid := by
    have h1 := h.keep id hid
    have h2 := k.keep id hid
    split
    · rename_i cs e
      rw [e] at h2
      obtain ⟨⟨cs', e'⟩, hr⟩ := h2
      rw [e'] at h1
      exact ⟨h1.1, hr.trans h1.2⟩
    · rename_i sz n f e
      rw [e] at h2
      obtain ⟨⟨n', f', e'⟩, hr⟩ := h2
      rw [e'] at h1
      exact ⟨h1.1, hr.trans h1.2⟩
    · trivial
  rmono b hb := k.rmono b (h.rmono b hb)
  rnew b hb := by
    rcases k.rnew b hb with h1 | h1 | ⟨id, h1⟩
    · exact h.rnew b h1
    · exact .inr (.inl (Nat.le_trans h.size h1))
    · rcases h.pnew id b h1 with h2 | h2
      · exact .inr (.inl h2)
      · exact .inr (.inr h2)
  pnew id b hb := by
    rcases k.pnew id b hb with h1 | ⟨j, h1⟩
    · exact .inl (Nat.le_trans h.size h1)
    · exact h.pnew j b h1
  size := Nat.le_trans h.size k.size
  same b hb hn := by
    refine (k.same b (Nat.lt_of_lt_of_le hb h.size) fun id hid => ?_).trans (h.same b hb hn)
    rcases h.pnew id b hid with h2 | ⟨j, h2⟩
    · omega
    · exact hn j h2
  shape b xs ty hb := by
    obtain ⟨x1, e1, s1⟩ := h.shape b xs ty hb
    obtain ⟨x2, e2, s2⟩ := k.shape b x1 ty e1
    exact ⟨x2, e2, s2.trans s1⟩
  os := k.os.trans h.os
  tape := k.tape.trans h.tape
  output := k.output.trans h.output
section
variable {P : Program} {TB : TypeId → TI} {ρ : Nat → Option Nat} {o : List Obj} {R : Nat → Prop} {w : World} {t : Fr} {a : Act} {Gl : List (Nat × Go.Obj)} {n : Nat} {π : List (Option Nat)} {fz : List Nat} {o' : List Obj}
def ρw (ρ : Nat → Option Nat) (π : List (Option Nat)) : Nat → Option Nat := fun j => match π[j]? with
  | some (some id) => ρ id
  | _ => none
def Rw (R : Nat → Prop) (ρ : Nat → Option Nat) (fz : List Nat) : Nat → Prop := fun b => R b ∨ ∃ id, fz.contains id = true ∧ ρ id = some b
theorem idIs_spec {j id : Nat} (h : idIs π j id = true) : π[j]? = some (some id) := by
  unfold idIs at h
  split at h
  · rename_i i e
    rw [e, Nat.eq_of_beq_eq_true h]
  · cases h
theorem idNew_spec {j : Nat} (h : idNew π j = true) : π[j]? = some none := by
  unfold idNew at h
  split at h
  · assumption
  · cases h
theorem ρw_is {j id : Nat} (h : π[j]? = some (some id)) : ρw ρ π j = ρ id := by unfold ρw; rw [h]
theorem lt_of_get {α : Type} {l : List α} {j : Nat} {x : α} (h : l[j]? = some x) : j < l.length := (List.getElem?_eq_some_iff.1 h).1
theorem DR.ext {R' : Nat → Prop} {s m k : Nat} {f g : Nat → List AV} {y : Value} (h : DR R' w (.sl s m g) y) (hk : k = m) (he : ∀ i, i < k → f i = g i) : DR R' w (.sl s k f) y := by
  subst hk
  cases h with
  | sl0 => exact .sl0 _ _ _ _
  | sl _ _ _ ad cap G h1 h2 h3 h4 h5 => exact .sl s k f ad cap G h1 h2 (fun i hi => by rw [he i hi]; exact h3 i hi) h4 fun i hi j hj => by rw [he i hi]; exact h5 i hi j hj
theorem Rw_mono : ∀ b, R b → Rw R ρ fz b := fun _ h => .inl h
theorem DR.rw {v : AV} {y : Value} (h : DR R w v y) : DR (Rw R ρ fz) w v y := h.go Rw_mono fun _ _ => rfl
mutual
theorem rv_be (hl : π.length = o'.length) : ∀ (v u : AV), rv π fz o v u → beneath o'.length v = true
  | .undef, _, _ | .int _ _, _, _ | .bool _, _, _ | .str _, _, _ | .sl _ _ _, _, _ | .ro _, _, _ | .nils, _, _ | .nilp, _, _ | .nilf, _, _ | .nili, _, _ => rfl
  | .row j s p k, u, h => by
    cases u <;> simp only [rv] at h
    case row id sz off len =>
      obtain ⟨h1, _⟩ := of_cond_true h
      simp only [Bool.and_eq_true] at h1
      simp only [beneath, decide_eq_true_eq]; rw [← hl]; exact lt_of_get (idIs_spec h1.1.1)
    case nils =>
      obtain ⟨h1, _⟩ := of_cond_true h
      simp only [beneath, decide_eq_true_eq]; rw [← hl]; exact lt_of_get (idNew_spec h1)
  | .ptr j p, u, h => by
    cases u <;> simp only [rv] at h
    obtain ⟨h1, _⟩ := of_cond_true h
    simp only [Bool.and_eq_true] at h1
    simp only [beneath, decide_eq_true_eq]; rw [← hl]; exact lt_of_get (idIs_spec h1.1.1)
  | .eptr j s i p, u, h => by
    cases u <;> simp only [rv] at h
    obtain ⟨h1, _⟩ := of_cond_true h
    simp only [Bool.and_eq_true] at h1
    simp only [beneath, decide_eq_true_eq]; rw [← hl]; exact lt_of_get (idIs_spec h1.1.1.1)
  | .agg l, u, h => by
    cases u <;> simp only [rv] at h
    simpa only [beneath] using rvL_be hl l _ (of_cond_true h).2
  | .tup l, u, h => by
    cases u <;> simp only [rv] at h
    simpa only [beneath] using rvL_be hl l _ (of_cond_true h).2
  | .fn f l c, u, h => by
    cases u <;> simp only [rv] at h
    obtain ⟨_, h2⟩ := of_cond_true h
    simp only [beneath, rvL_be hl l _ h2.1, rvL_be hl c _ h2.2]
    rfl
theorem rvL_be (hl : π.length = o'.length) : ∀ (l m : List AV), rvL π fz o l m → beneathL o'.length l = true
  | [], _, _ => rfl
  | v :: r, m, h => by
    cases m with
    | nil => simp only [rvL] at h
    | cons u s =>
      simp only [rvL] at h
      simp only [beneathL, rv_be hl v u h.1, rvL_be hl r s h.2]
      rfl
end
mutual
theorem rv_VR (hh : HR Gl o ρ R w) (hl : π.length = o'.length) : ∀ (v u : AV), rv π fz o v u → ∀ y, TR ρ o R w u y → VR (ρw ρ π) (Rw R ρ fz) w v y ∧ beneath o'.length v = true
  | .undef, u, _, y, _ => ⟨.undef y, rfl⟩
  | .int k a, u, h, y, ht => by
    cases u <;> simp only [rv] at h
    obtain ⟨h1, h2⟩ := of_cond_true h
    have h1 : k = _ := of_decide_eq_true h1
    subst h1
    obtain rfl := h2.h
    cases ht.vr rfl with | data hd => exact ⟨.data hd.rw, rfl⟩
  | .bool a, u, h, y, ht => by
    cases u <;> simp only [rv] at h
    obtain rfl := h.h
    cases ht.vr rfl with | data hd => exact ⟨.data hd.rw, rfl⟩
  | .str a, u, h, y, ht => by
    cases u <;> simp only [rv] at h
    obtain rfl := h.h
    cases ht.vr rfl with | data hd => exact ⟨.data hd.rw, rfl⟩
  | .sl s k f, u, h, y, ht => by
    cases u <;> simp only [rv] at h
    case sl z m g =>
      obtain ⟨h1, h2⟩ := of_cond_true h
      obtain rfl := Nat.eq_of_beq_eq_true h1
      cases ht.vr rfl with | data hd => exact ⟨.data (hd.rw.ext h2.h.1 h2.h.2), rfl⟩
    case row id sz off len =>
      split at h
      · rename_i s' m g e
        obtain ⟨h1, h2⟩ := of_cond_true h
        simp only [Bool.and_eq_true] at h1
        have hd := frozen_DR hh ht e h1.1.1 h2.h.2.1
        have h3 : sz = s := (Nat.eq_of_beq_eq_true h1.1.1).symm.trans (Nat.eq_of_beq_eq_true h1.1.2)
        subst h3
        refine ⟨.data ((hd.go (fun b hb => ?_) fun _ _ => rfl).ext h2.h.1 h2.h.2.2), rfl⟩
        rcases hb with hb | hb
        · exact .inl hb
        · exact .inr ⟨id, h1.2, hb⟩
      · exact h.elim
    case nils =>
      obtain rfl := h.h
      cases ht.vr rfl with | data hd => cases hd with | nils a => exact ⟨.data (.sl0 _ _ _ _), rfl⟩
  | .ro cs, u, h, y, ht => by
    cases u <;> simp only [rv] at h
    obtain rfl := h.h
    cases ht.vr rfl with | data hd => exact ⟨.data hd.rw, rfl⟩
  | .row j s p k, u, h, y, ht => by
    cases u <;> simp only [rv] at h
    case row id sz off len =>
      obtain ⟨h1, h2⟩ := of_cond_true h
      simp only [Bool.and_eq_true] at h1
      obtain ⟨⟨h3, h4⟩, h5⟩ := h1
      have h3 := idIs_spec h3
      obtain rfl := Nat.eq_of_beq_eq_true h4
      obtain ⟨rfl, rfl⟩ := h2.h
      refine ⟨?_, by simp only [beneath, decide_eq_true_eq]; rw [← hl]; exact lt_of_get h3⟩
      cases ht.vr h5 with
      | data hd => cases hd
      | row h1 h2 h3' h4 => exact .row ((ρw_is h3).trans h1) h2 h3' h4
      | row0 => exact .row0 _ _ _ _
    case nils =>
      obtain ⟨h1, h2⟩ := of_cond_true h
      obtain ⟨rfl, rfl⟩ := h2.h
      refine ⟨?_, by simp only [beneath, decide_eq_true_eq]; rw [← hl]; exact lt_of_get (idNew_spec h1)⟩
      cases ht.vr rfl with | data hd => cases hd with | nils a => exact .row0 _ _ _ _
  | .ptr j p, u, h, y, ht => by
    cases u <;> simp only [rv] at h
    obtain ⟨h1, _⟩ := of_cond_true h
    simp only [Bool.and_eq_true] at h1
    obtain ⟨⟨h3, h4⟩, h5⟩ := h1
    have h3 := idIs_spec h3
    obtain rfl := Nat.eq_of_beq_eq_true h4
    refine ⟨?_, by simp only [beneath, decide_eq_true_eq]; rw [← hl]; exact lt_of_get h3⟩
    cases ht.vr h5 with
    | data hd => cases hd
    | ptr h1 => exact .ptr ((ρw_is h3).trans h1)
  | .eptr j s i p, u, h, y, ht => by
    cases u <;> simp only [rv] at h
    obtain ⟨h1, h2⟩ := of_cond_true h
    simp only [Bool.and_eq_true] at h1
    obtain ⟨⟨⟨h3, h4⟩, h6⟩, h5⟩ := h1
    have h3 := idIs_spec h3
    obtain rfl := Nat.eq_of_beq_eq_true h4
    obtain rfl := Nat.eq_of_beq_eq_true h6
    obtain rfl := h2.h
    refine ⟨?_, by simp only [beneath, decide_eq_true_eq]; rw [← hl]; exact lt_of_get h3⟩
    cases ht.vr h5 with
    | data hd => cases hd
    | eptr h1 => exact .eptr ((ρw_is h3).trans h1)
  | .nils, u, h, y, ht => by
    cases u <;> simp only [rv] at h
    cases ht.vr rfl with | data hd => exact ⟨.data hd.rw, rfl⟩
  | .nilp, u, h, y, ht => by
    cases u <;> simp only [rv] at h
    cases ht.vr rfl with | data hd => exact ⟨.data hd.rw, rfl⟩
  | .nilf, u, h, y, ht => by
    cases u <;> simp only [rv] at h
    cases ht.vr rfl with | data hd => exact ⟨.data hd.rw, rfl⟩
  | .nili, u, h, y, ht => by
    cases u <;> simp only [rv] at h
    cases ht.vr rfl with | data hd => exact ⟨.data hd.rw, rfl⟩
  | .agg l, u, h, y, ht => by
    cases u <;> simp only [rv] at h
    obtain ⟨h1, h2⟩ := of_cond_true h
    obtain ⟨g1, g2, g3⟩ := rvL_VR hh hl l _ h2
    cases ht.vr (by simpa only [live] using h1) with
    | data hd => cases hd
    | agg _ xs k1 k2 => exact ⟨.agg l xs (k1.trans g1.symm) fun j hj => g2 j hj _ (.of (liveL_iff.1 h1 _ (getD_mem (g1 ▸ hj))) (k2 j (g1 ▸ hj))), by simpa only [beneath] using g3⟩
  | .tup l, u, h, y, ht => by
    cases u <;> simp only [rv] at h
    obtain ⟨h1, h2⟩ := of_cond_true h
    obtain ⟨g1, g2, g3⟩ := rvL_VR hh hl l _ h2
    cases ht.vr (by simpa only [live] using h1) with
    | data hd => cases hd
    | tup _ xs k1 k2 => exact ⟨.tup l xs (k1.trans g1.symm) fun j hj => g2 j hj _ (.of (liveL_iff.1 h1 _ (getD_mem (g1 ▸ hj))) (k2 j (g1 ▸ hj))), by simpa only [beneath] using g3⟩
  | .fn f l c, u, h, y, ht => by
    cases u <;> simp only [rv] at h
    obtain ⟨h1, h2⟩ := of_cond_true h
    simp only [Bool.and_eq_true] at h1
    obtain ⟨⟨h3, h4⟩, h5⟩ := h1
    obtain rfl := Nat.eq_of_beq_eq_true h3
    obtain ⟨g1, g2, g3⟩ := rvL_VR hh hl l _ h2.1
    obtain ⟨p1, p2, p3⟩ := rvL_VR hh hl c _ h2.2
    cases ht.vr (by simp only [live, h4, h5]; rfl) with
    | data hd => cases hd
    | fn _ _ _ xs ys k1 k2 k3 k4 => exact ⟨.fn f l c xs ys (k1.trans g1.symm) (fun j hj => g2 j hj _ (.of (liveL_iff.1 h4 _ (getD_mem (g1 ▸ hj))) (k2 j (g1 ▸ hj)))) (k3.trans p1.symm)
        (fun j hj => p2 j hj _ (.of (liveL_iff.1 h5 _ (getD_mem (p1 ▸ hj))) (k4 j (p1 ▸ hj)))), by simp only [beneath, g3, p3]; rfl⟩
theorem rvL_VR (hh : HR Gl o ρ R w) (hl : π.length = o'.length) : ∀ (l m : List AV), rvL π fz o l m → l.length = m.length ∧ (∀ j, j < l.length → ∀ y, TR ρ o R w (m.getD j .undef) y → VR (ρw ρ π) (Rw R ρ fz) w (l.getD j .undef) y) ∧ beneathL o'.length l = true
  | [], m, h => by
    cases m with
    | nil => exact ⟨rfl, fun j hj => absurd hj (Nat.not_lt_zero _), rfl⟩
    | cons _ _ => simp only [rvL] at h
  | v :: r, m, h => by
    cases m with
    | nil => simp only [rvL] at h
    | cons u s =>
      simp only [rvL] at h
      obtain ⟨g1, g2, g3⟩ := rvL_VR hh hl r s h.2
      refine ⟨by simp [g1], fun j hj y hy => ?_, ?_⟩
      · cases j with
        | zero => exact (rv_VR hh hl v u h.1 y (by simpa using hy)).1
        | succ j => simpa using g2 j (by simpa using hj) y (by simpa using hy)
      · simp only [beneathL, rv_be hl v u h.1, g3]
        rfl
end
theorem wkO_len : ∀ {p : List (Option Nat)} {q : List Obj}, wkO π fz o p q → p.length = q.length
  | [], [], _ => rfl
  | [], _ :: _, h => by simp only [wkO] at h
  | none :: p, [], h => by simp only [wkO] at h
  | some _ :: p, [], h => by simp only [wkO] at h
  | none :: p, x :: r, h => by
    cases x <;> simp only [wkO] at h
    simp [wkO_len h.2]
  | some id :: p, x :: r, h => by
    simp only [wkO] at h
    simp [wkO_len h.2]
/-- One local object, told anew. -/
def wk1 (π : List (Option Nat)) (fz : List Nat) (o : List Obj) : Option Nat → Obj → Prop
  | none, x => ∃ s f, x = .row s 0 f
  | some id, x => match x, o[id]? with
    | .box cs, some (.box ds) => rvL π fz o cs ds
    | .row s n f, some (.row sz m g) => s = sz ∧ n = m ∧ ∀ i, i < n → f i = g i
    | _, _ => False
theorem wkO_get : ∀ {p : List (Option Nat)} {q : List Obj}, wkO π fz o p q → ∀ {j : Nat} {k : Option Nat} {x : Obj}, p[j]? = some k → q[j]? = some x → wk1 π fz o k x
  | [], [], _, j, _, _, h1, _ => by simp at h1
  | [], _ :: _, h, _, _, _, _, _ => by simp only [wkO] at h
  | none :: p, [], h, _, _, _, _, _ => by simp only [wkO] at h
  | some _ :: p, [], h, _, _, _, _, _ => by simp only [wkO] at h
  | none :: p, x :: r, h, j, k, y, h1, h2 => by
    cases x <;> simp only [wkO] at h
    cases j with
    | zero =>
      simp at h1 h2
      subst h1 h2
      obtain ⟨h3, _⟩ := h
      obtain rfl := h3.h
      exact ⟨_, _, rfl⟩
    | succ j => exact wkO_get h.2 (by simpa using h1) (by simpa using h2)
  | some id :: p, x :: r, h, j, k, y, h1, h2 => by
    simp only [wkO] at h
    cases j with
    | zero =>
      simp at h1 h2
      subst h1 h2
      have h3 := h.1
      unfold wk1
      simp only
      split at h3
      · rename_i e; rw [e]; exact h3
      · rename_i e
        obtain ⟨g1, g2⟩ := of_cond_true h3
        rw [e]
        exact ⟨Nat.eq_of_beq_eq_true g1, g2.h.1, g2.h.2⟩
      · exact h3.elim
    | succ j => exact wkO_get h.2 (by simpa using h1) (by simpa using h2)
theorem wkN_once : ∀ {p : List (Option Nat)}, wkN fz p = true → ∀ {i j id : Nat}, p[i]? = some (some id) → p[j]? = some (some id) → i = j
  | [], _, i, _, _, h, _ => by simp at h
  | none :: p, h, i, j, id, h1, h2 => by
    cases i with
    | zero => simp at h1
    | succ i => cases j with
      | zero => simp at h2
      | succ j => exact congrArg Nat.succ (wkN_once (p := p) (id := id) (by simpa only [wkN] using h) (by simpa using h1) (by simpa using h2))
  | some k :: p, h, i, j, id, h1, h2 => by
    simp only [wkN, Bool.and_eq_true, Bool.not_eq_true'] at h
    have no : ∀ q : Nat, p[q]? = some (some k) → False := fun q hq => by
      have := List.mem_of_getElem? hq
      have h3 := h.1.1
      rw [List.contains_eq_mem] at h3
      simp [this] at h3
    cases i with
    | zero => cases j with
      | zero => rfl
      | succ j => simp at h1 h2; subst h1; exact (no j h2).elim
    | succ i => cases j with
      | zero => simp at h1 h2; subst h2; exact (no i h1).elim
      | succ j => exact congrArg Nat.succ (wkN_once (p := p) (id := id) h.2 (by simpa using h1) (by simpa using h2))
theorem wkN_fz : ∀ {p : List (Option Nat)}, wkN fz p = true → ∀ {i id : Nat}, p[i]? = some (some id) → fz.contains id = false
  | [], _, i, _, h => by simp at h
  | none :: p, h, i, id, h1 => by
    cases i with
    | zero => simp at h1
    | succ i => exact wkN_fz (p := p) (by simpa only [wkN] using h) (by simpa using h1)
  | some k :: p, h, i, id, h1 => by
    simp only [wkN, Bool.and_eq_true, Bool.not_eq_true'] at h
    cases i with
    | zero => simp at h1; subst h1; exact h.1.2
    | succ i => exact wkN_fz (p := p) h.2 (by simpa using h1)
theorem wkM_get : ∀ {m : Nat} {p : List (Option Nat)} {k : Nat}, wkM m p k = true → ∀ {i : Nat}, i < m → p[i]? = some (some (i + k))
  | 0, _, _, _, i, hi => absurd hi (Nat.not_lt_zero _)
  | m + 1, [], k, h, i, _ => by simp [wkM] at h
  | m + 1, none :: p, k, h, i, _ => by simp [wkM] at h
  | m + 1, some j :: p, k, h, i, hi => by
    simp only [wkM, Bool.and_eq_true] at h
    cases i with
    | zero => simp [Nat.eq_of_beq_eq_true h.1]
    | succ i =>
      have := wkM_get h.2 (i := i) (by omega)
      simp [this]
      omega
theorem wkT_get : ∀ {L : List (Nat × AV)}, wkT π fz o t L → ∀ x, ofL L x = .undef ∨ rv π fz o (ofL L x) (t x)
  | [], _, x => .inl rfl
  | (j, v) :: r, h, x => by
    simp only [wkT] at h
    unfold ofL
    cases e : Nat.beq x j with
    | true => rw [Nat.eq_of_beq_eq_true e]; exact .inr h.1
    | false => exact wkT_get h.2 x
/-- WHAT IS KNOWN MAY BE TOLD ANEW. -/
theorem wk_sound {m : Nat} {L : List (Nat × AV)} (hs : SR Gl ρ o R w t a n) (h : WkTo m t o L o') : ∃ ρ' R', SR Gl ρ' o' R' w (ofL L) a n ∧ EK m o ρ R w o' ρ' R' w := by
  obtain ⟨π, fz, hM, hN, hTt, hO⟩ := h.ex
  have hl := wkO_len hO
  have hh := hs.hh
  have inv : ∀ {j b}, ρw ρ π j = some b → ∃ id, π[j]? = some (some id) ∧ ρ id = some b := by
    intro j b h
    unfold ρw at h
    split at h
    · rename_i id e; exact ⟨id, e, h⟩
    · cases h
  refine ⟨ρw ρ π, Rw R ρ fz, ⟨⟨?_, ?_, ?_, ?_, ?_, ?_⟩, ?_, hs.sz, hs.df⟩, ⟨?_, Rw_mono, ?_, ?_, Nat.le_refl _, fun _ _ _ => rfl, fun _ xs _ h => ⟨xs, h, rfl⟩, rfl, rfl, rfl⟩⟩
  · intro j b h
    obtain ⟨id, e, _⟩ := inv h
    rw [← hl]
    exact lt_of_get e
  · intro j b h
    obtain ⟨id, _, h⟩ := inv h
    exact hh.lt id b h
  · intro i j b h1 h2
    obtain ⟨id1, e1, h1⟩ := inv h1
    obtain ⟨id2, e2, h2⟩ := inv h2
    have := hh.inj id1 id2 b h1 h2
    subst this
    exact wkN_once hN e1 e2
  · intro b hb
    rcases hb with hb | ⟨k, hk, hb⟩
    · refine ⟨(hh.ro b hb).1, fun j h => ?_⟩
      obtain ⟨id, _, h⟩ := inv h
      exact (hh.ro b hb).2 id h
    · refine ⟨hh.lt k b hb, fun j h => ?_⟩
      obtain ⟨id, e, h⟩ := inv h
      have := hh.inj id k b h hb
      subst this
      rw [wkN_fz hN e] at hk
      cases hk
  · intro j ob h
    have hj : j < π.length := by rw [hl]; exact lt_of_get h
    have hk := wkO_get hO (List.getElem?_eq_getElem hj) h
    cases hp : π[j] with
    | none =>
      rw [hp] at hk
      obtain ⟨s, f, rfl⟩ := hk
      refine .inl ⟨rfl, ?_⟩
      unfold ρw
      rw [List.getElem?_eq_getElem hj, hp]
    | some id =>
      rw [hp] at hk
      have hr : ρw ρ π j = ρ id := ρw_is (by rw [List.getElem?_eq_getElem hj, hp])
      unfold wk1 at hk
      simp only at hk
      split at hk
      · rename_i cs ds e
        obtain ⟨b, xs, ty, h1, h2, h3, h4⟩ := hh.obj id _ e
        obtain ⟨g1, g2, g3⟩ := rvL_VR hh hl cs ds hk
        exact ⟨b, xs, ty, hr.trans h1, h2, h3.trans g1.symm, fun i hi => ⟨beneathL_iff.1 g3 _ (getD_mem hi), fun _ => g2 i hi _ (h4 i (g1 ▸ hi))⟩⟩
      · rename_i s m f sz k g e
        obtain ⟨rfl, rfl, he⟩ := hk
        rcases hh.obj id _ e with ⟨h1, h2⟩ | ⟨b, xs, ty, h1, h2, h3, h4, h5⟩
        · exact .inl ⟨h1, hr.trans h2⟩
        · exact .inr ⟨b, xs, ty, hr.trans h1, h2, h3, fun i hi => by rw [he i hi]; exact h4 i hi, fun i hi q hq => by rw [he i hi]; exact (h5 i hi q hq).rw⟩
      · exact hk.elim
  · exact fun p hp => ⟨.inl (hh.gl p hp).1, (hh.gl p hp).2⟩
  · intro x
    rcases wkT_get hTt x with h | h
    · rw [h]; exact .undef
    · exact ⟨rv_be hl _ _ h, fun _ => (rv_VR hh hl _ _ h _ (hs.hf x)).1⟩
  · intro id hid
    have e := wkM_get hM hid
    rw [Nat.add_zero] at e
    have hr : ρw ρ π id = ρ id := ρw_is e
    split
    · rename_i cs e2
      have hk := wkO_get hO e e2
      unfold wk1 at hk
      simp only at hk
      split at hk
      · rename_i e3; exact ⟨⟨_, e3⟩, hr⟩
      · rename_i e4 _; cases e4
      · exact hk.elim
    · rename_i sz k f e2
      have hk := wkO_get hO e e2
      unfold wk1 at hk
      simp only at hk
      split at hk
      · rename_i e4 _; cases e4
      · rename_i e4 e3
        cases e4
        obtain ⟨rfl, _⟩ := hk
        exact ⟨⟨_, _, e3⟩, hr⟩
      · exact hk.elim
    · trivial
  · intro b hb
    rcases hb with hb | ⟨k, _, hb⟩
    · exact .inl hb
    · exact .inr (.inr ⟨k, hb⟩)
  · intro j b h
    obtain ⟨id, _, h⟩ := inv h
    exact .inr ⟨id, h⟩
end
end Go.Proofs.YtbbgojaloebknaaDoor.Vc
