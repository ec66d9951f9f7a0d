/- Part G of the engine: the steps by which memory changes. -/
import Derived.Test.YtbbgojaloebknaaDoorVcF
import Derived.Laws.IdiomCopy
import Derived.Deep.AppendSrc
namespace Go.Proofs.YtbbgojaloebknaaDoor.Vc
section
variable {P : Program} {TB : TypeId → TI} {ρ : Nat → Option Nat} {o : List Obj} {R : Nat → Prop} {w : World} {t : Fr} {a : Act} {Gl : List (Nat × Go.Obj)}

/-! ### A new block -/
def ρnew (ρ : Nat → Option Nat) (n b : Nat) : Nat → Option Nat := fun id => if id = n then some b else ρ id
theorem EX.new (_hh : HR Gl o ρ R w) (ob : Obj) (xs : Array Value) (ty : TypeId) {w' : World} (hw : w'.heap = w.heap.push (.cells xs ty (0, 0))) (h1 : w'.os = w.os) (h2 : w'.tape = w.tape) (h3 : w'.output = w.output) :
    EX o ρ R w (o ++ [ob]) (ρnew ρ o.length w.heap.size) R w' where
  len := by simp
  keep id hid := by
    have e : (o ++ [ob])[id]? = o[id]? := List.getElem?_append_left hid
    have e2 : ρnew ρ o.length w.heap.size id = ρ id := by unfold ρnew; rw [if_neg (by omega)]
    rw [e, e2]
    split
    · rename_i h; exact ⟨⟨_, h⟩, rfl⟩
    · rename_i h; exact ⟨⟨_, _, h⟩, rfl⟩
    · trivial
  rmono _ h := h
  rnew _ h := .inl h
  pnew id b h := by
    unfold ρnew at h
    split at h
    · injection h with h; exact .inl (by omega)
    · exact .inr ⟨id, h⟩
  size := by rw [hw]; simp
  same b hb _ := by rw [hw, Array.getElem?_push_lt (by omega), Array.getElem?_eq_getElem hb]
  shape b ys ty' h := ⟨ys, by
    have hb := (Array.getElem?_eq_some_iff.1 h).1
    rw [hw, Array.getElem?_push_lt (by omega), ← Array.getElem?_eq_getElem hb]
    exact h, rfl⟩
  os := h1
  tape := h2
  output := h3
/-- An object as it was, in a state that has gone on. -/
theorem OB.go {o' ρ' R' w'} (hx : EX o ρ R w o' ρ' R' w') (hro : ∀ b, R b → b < w.heap.size ∧ ∀ id, ρ id ≠ some b) {id : Nat} {ob : Obj} (h : OB ρ o R w id ob) (hr : ρ' id = ρ id) (hb : ∀ b, ρ id = some b → w'.heap[b]? = w.heap[b]?) : OB ρ' o' R' w' id ob := by
  have hw : ∀ b, R b → w'.heap[b]? = w.heap[b]? := fun b hb => hx.same b (hro b hb).1 (hro b hb).2
  cases ob with
  | dead => exact hr.trans h
  | box cs =>
    obtain ⟨b, xs, ty, h1, h2, h3, h4⟩ := h
    exact ⟨b, xs, ty, hr.trans h1, (hb b h1).trans h2, h3, fun j hj => (h4 j hj).go hx hro⟩
  | row sz n f =>
    rcases h with ⟨h1, h2⟩ | ⟨b, xs, ty, h1, h2, h3, h4, h5⟩
    · exact .inl ⟨h1, hr.trans h2⟩
    · exact .inr ⟨b, xs, ty, hr.trans h1, (hb b h1).trans h2, h3, h4, fun i hi j hj => (h5 i hi j hj).go hx.rmono hw⟩
theorem HR.new (hh : HR Gl o ρ R w) (ob : Obj) (xs : Array Value) (ty : TypeId) {w' : World} (hw : w'.heap = w.heap.push (.cells xs ty (0, 0))) (h1 : w'.os = w.os) (h2 : w'.tape = w.tape) (h3 : w'.output = w.output)
    (hob : EX o ρ R w (o ++ [ob]) (ρnew ρ o.length w.heap.size) R w' → OB (ρnew ρ o.length w.heap.size) (o ++ [ob]) R w' o.length ob) : HR Gl (o ++ [ob]) (ρnew ρ o.length w.heap.size) R w' := by
  have hx := EX.new hh ob xs ty hw h1 h2 h3
  have hn : ∀ id b, ρnew ρ o.length w.heap.size id = some b → (id = o.length ∧ b = w.heap.size) ∨ (id < o.length ∧ ρ id = some b ∧ b < w.heap.size) := by
    intro id b h
    unfold ρnew at h
    split at h
    · injection h with h; exact .inl ⟨by assumption, h.symm⟩
    · exact .inr ⟨hh.dom id b h, h, hh.lt id b h⟩
  refine ⟨?_, ?_, ?_, ?_, ?_, ?_⟩
  · intro id b h
    rw [List.length_append]
    rcases hn id b h with ⟨rfl, _⟩ | ⟨h, _⟩ <;> simp <;> omega
  · intro id b h
    rw [hw, Array.size_push]
    rcases hn id b h with ⟨_, rfl⟩ | ⟨_, _, h⟩ <;> omega
  · intro i j b hi hj
    rcases hn i b hi with ⟨e1, e2⟩ | ⟨e1, e2, e3⟩ <;> rcases hn j b hj with ⟨e4, e5⟩ | ⟨e4, e5, e6⟩
    · omega
    · omega
    · omega
    · exact hh.inj i j b e2 e5
  · intro b hb
    obtain ⟨h1, h2⟩ := hh.ro b hb
    refine ⟨by rw [hw, Array.size_push]; omega, fun id h => ?_⟩
    rcases hn id b h with ⟨_, rfl⟩ | ⟨_, h, _⟩
    · omega
    · exact h2 id h
  · intro id ob' h
    by_cases hid : id < o.length
    · rw [List.getElem?_append_left hid] at h
      refine (hh.obj id ob' h).go hx hh.ro (by unfold ρnew; rw [if_neg (by omega)]) fun b hb => ?_
      have := hh.lt id b hb
      rw [hw, Array.getElem?_push_lt (by omega), Array.getElem?_eq_getElem this]
    · have hid' : id = o.length := by
        have := (List.getElem?_eq_some_iff.1 h).1
        simp at this
        omega
      subst hid'
      rw [List.getElem?_append_right (Nat.le_refl _), Nat.sub_self] at h
      simp at h
      subst h
      exact hob hx
  · intro p hp
    obtain ⟨h1, h2⟩ := hh.gl p hp
    exact ⟨h1, (hx.same _ (hh.ro _ h1).1 (hh.ro _ h1).2).trans h2⟩

/-! ### A local row that is frozen -/
def ρdel (ρ : Nat → Option Nat) (k : Nat) : Nat → Option Nat := fun id => if id = k then none else ρ id
def Radd (R : Nat → Prop) (ρ : Nat → Option Nat) (k : Nat) : Nat → Prop := fun b => R b ∨ ρ k = some b
theorem EX.frz (k : Nat) : EX o ρ R w (o.set k .dead) (ρdel ρ k) (Radd R ρ k) w where
  len := by simp
  keep id hid := by
    by_cases hk : k = id
    · subst hk
      rw [List.getElem?_set_self hid]
      trivial
    · rw [List.getElem?_set_ne hk]
      have e2 : ρdel ρ k id = ρ id := by unfold ρdel; rw [if_neg (Ne.symm hk)]
      rw [e2]
      split
      · rename_i h; exact ⟨⟨_, h⟩, rfl⟩
      · rename_i h; exact ⟨⟨_, _, h⟩, rfl⟩
      · trivial
  rmono _ h := .inl h
  rnew b h := by
    rcases h with h | h
    · exact .inl h
    · exact .inr (.inr ⟨k, h⟩)
  pnew id b h := by
    unfold ρdel at h
    split at h
    · cases h
    · exact .inr ⟨id, h⟩
  size := Nat.le_refl _
  same _ _ _ := rfl
  shape _ ys _ h := ⟨ys, h, rfl⟩
  os := rfl
  tape := rfl
  output := rfl
theorem HR.frz (hh : HR Gl o ρ R w) (k : Nat) : HR Gl (o.set k .dead) (ρdel ρ k) (Radd R ρ k) w := by
  have hx := EX.frz (o := o) (ρ := ρ) (R := R) (w := w) k
  have hn : ∀ id b, ρdel ρ k id = some b → id ≠ k ∧ ρ id = some b := by
    intro id b h
    unfold ρdel at h
    split at h
    · cases h
    · exact ⟨by assumption, h⟩
  refine ⟨?_, ?_, ?_, ?_, ?_, ?_⟩
  · intro id b h; rw [List.length_set]; exact hh.dom id b (hn id b h).2
  · intro id b h; exact hh.lt id b (hn id b h).2
  · intro i j b hi hj; exact hh.inj i j b (hn i b hi).2 (hn j b hj).2
  · intro b hb
    rcases hb with hb | hb
    · exact ⟨(hh.ro b hb).1, fun id h => (hh.ro b hb).2 id (hn id b h).2⟩
    · exact ⟨hh.lt k b hb, fun id h => (hn id b h).1 (hh.inj id k b (hn id b h).2 hb)⟩
  · intro id ob h
    by_cases hk : k = id
    · subst hk
      have hid : k < o.length := by have := (List.getElem?_eq_some_iff.1 h).1; rwa [List.length_set] at this
      rw [List.getElem?_set_self hid] at h
      injection h with h
      subst h
      show ρdel ρ k k = none
      unfold ρdel
      rw [if_pos rfl]
    · rw [List.getElem?_set_ne hk] at h
      exact (hh.obj id ob h).go hx hh.ro (by unfold ρdel; rw [if_neg (Ne.symm hk)]) fun b hb => rfl
  · intro p hp
    obtain ⟨h1, h2⟩ := hh.gl p hp
    exact ⟨.inl h1, h2⟩
/-- What of a row is frozen is data from then on. -/
theorem frozen_DR (hh : HR Gl o ρ R w) {id sz off len s n f} {y : Value} (h : TR ρ o R w (.row id sz off len) y) (he : o[id]? = some (.row s n f)) (hs : Nat.beq s sz = true) (hl : off + len ≤ n) :
    DR (Radd R ρ id) w (.sl sz len fun i => f (off + i)) y := by
  rcases h.row he hs with ⟨h0, b, rfl⟩ | ⟨b, cs, ty, cap, rfl, hr, hc, h1, h2⟩
  · subst h0; exact .sl0 _ _ _ _
  · have hs := Nat.eq_of_beq_eq_true hs
    subst hs
    rcases hh.obj id _ he with ⟨h3, _⟩ | ⟨b', xs, ty', q1, q2, q3, q4, q5⟩
    · have : len = 0 := by omega
      subst this
      exact .sl0 _ _ _ _
    · rw [hr] at q1
      injection q1 with q1
      subst q1
      rw [hc] at q2
      injection q2 with q2
      injection q2 with q2 q6 q7
      subst q2
      refine .sl s len _ ⟨b, off * s, none⟩ cap (fun i j => cs.getD ((off + i) * s + j) Go.undef) h1 (.inr hr) (fun i hi => q4 _ (by omega)) (fun i hi j hj => ?_) (fun i hi j hj => ?_)
      · rw [Addr.add_mid, show off * s + (i * s + j) = (off + i) * s + j by rw [Nat.add_mul]; omega]
        refine cell_block hc ?_
        have : (off + i + 1) * s ≤ n * s := Nat.mul_le_mul_right _ (by omega)
        rw [Nat.add_mul] at this
        omega
      · exact (q5 (off + i) (by omega) j hj).go (fun b hb => .inl hb) (fun b _ => rfl)
/-! ### The world grows beside it -/
structure Grows (w w' : World) : Prop where
  size : w.heap.size ≤ w'.heap.size
  same : ∀ b, b < w.heap.size → w'.heap[b]? = w.heap[b]?
  os : w'.os = w.os
  tape : w'.tape = w.tape
  output : w'.output = w.output
theorem Grows.refl (w : World) : Grows w w := ⟨Nat.le_refl _, fun _ _ => rfl, rfl, rfl, rfl⟩
theorem EX.grows {w' : World} (h : Grows w w') : EX o ρ R w o ρ R w' where
  len := Nat.le_refl _
  keep := (EX.refl o ρ R w).keep
  rmono _ h := h
  rnew _ h := .inl h
  pnew id _b h := .inr ⟨id, h⟩
  size := h.size
  same b hb _ := h.same b hb
  shape b xs _ty hb := ⟨xs, (h.same b (Array.getElem?_eq_some_iff.1 hb).1).trans hb, rfl⟩
  os := h.os
  tape := h.tape
  output := h.output
theorem HR.grows (hh : HR Gl o ρ R w) {w' : World} (h : Grows w w') : HR Gl o ρ R w' where
  dom := hh.dom
  lt id b hb := Nat.lt_of_lt_of_le (hh.lt id b hb) h.size
  inj := hh.inj
  ro b hb := ⟨Nat.lt_of_lt_of_le (hh.ro b hb).1 h.size, (hh.ro b hb).2⟩
  obj id ob he := (hh.obj id ob he).go (EX.grows h) hh.ro rfl fun b hb => h.same b (hh.lt id b hb)
  gl p hp := ⟨(hh.gl p hp).1, (h.same _ (hh.ro _ (hh.gl p hp).1).1).trans (hh.gl p hp).2⟩
end
end Go.Proofs.YtbbgojaloebknaaDoor.Vc
