/- Part H of the engine: rows frozen among what is stored; cells written. -/
import Derived.Test.YtbbgojaloebknaaDoorVcG
namespace Go.Proofs.YtbbgojaloebknaaDoor.Vc
section
variable {P : Program} {TB : TypeId → TI} {ρ : Nat → Option Nat} {o : List Obj} {R : Nat → Prop} {w : World} {t : Fr} {a : Act} {Gl : List (Nat × Go.Obj)}

theorem kill_HR : ∀ (ks : List Nat) {o : List Obj} {ρ : Nat → Option Nat} {R : Nat → Prop}, HR Gl o ρ R w → ∃ ρ' R', HR Gl (kill o ks) ρ' R' w ∧ EX o ρ R w (kill o ks) ρ' R' w ∧ (∀ k ∈ ks, ∀ b, ρ k = some b → R' b)
  | [], o, ρ, R, hh => ⟨ρ, R, hh, EX.refl _ _ _ _, fun k hk => by cases hk⟩
  | k :: r, o, ρ, R, hh => by
    obtain ⟨ρ', R', h1, h2, h3⟩ := kill_HR r (hh.frz k)
    refine ⟨ρ', R', h1, (EX.frz k).trans h2, fun j hj b hb => ?_⟩
    by_cases hjk : j = k
    · subst hjk
      exact h2.rmono b (.inr hb)
    · rcases List.mem_cons.1 hj with rfl | hj
      · exact absurd rfl hjk
      · exact h3 j hj b (by unfold ρdel; rw [if_neg hjk]; exact hb)
theorem kill_length : ∀ (ks : List Nat) (o : List Obj), (kill o ks).length = o.length
  | [], o => rfl
  | k :: r, o => by rw [kill, kill_length r, List.length_set]
theorem kill_other : ∀ (ks : List Nat) (o : List Obj) (id : Nat), ks.contains id = false → (kill o ks)[id]? = o[id]?
  | [], o, id, _ => rfl
  | k :: r, o, id, h => by
    simp only [List.contains_cons, Bool.or_eq_false_iff, beq_eq_false_iff_ne] at h
    rw [kill, kill_other r _ id h.2, List.getElem?_set_ne (Ne.symm h.1)]
/-- One value that goes into a row. -/
theorem frz1_DR (hh : HR Gl o ρ R w) {v x : AV} {k : Option Nat} {p : Prop} {y : Value} (h : frz1 o v = some (x, k, p)) (hp : p) (hv : TR ρ o R w v y) {R' : Nat → Prop} (h1 : ∀ b, R b → R' b) (h2 : ∀ j, k = some j → ∀ b, ρ j = some b → R' b) : DR R' w x y := by
  unfold frz1 at h
  split at h
  · rename_i id sz off len
    split at h
    · rename_i s n f e
      cases hs : Nat.beq s sz with
      | false => rw [hs] at h; cases h
      | true =>
        rw [hs] at h
        simp only [cond_true, Option.some.injEq, Prod.mk.injEq] at h
        obtain ⟨rfl, rfl, rfl⟩ := h
        refine (frozen_DR hh hv e hs hp).go (fun b hb => ?_) fun b _ => rfl
        rcases hb with hb | hb
        · exact h1 b hb
        · exact h2 _ rfl b hb
    · cases h
  all_goals first
    | (simp only [Option.some.injEq, Prod.mk.injEq] at h
       obtain ⟨rfl, rfl, rfl⟩ := h
       have := hv.vr rfl
       cases this with
       | data hd => exact hd.go h1 fun b _ => rfl)
    | cases h
theorem frzL_DR (hh : HR Gl o ρ R w) {R' : Nat → Prop} (h1 : ∀ b, R b → R' b) : ∀ {cs ds : List AV} {ks : List Nat} {p : Prop} {g : Nat → Value}, frzL o cs = some (ds, ks, p) → p → (∀ j, j < cs.length → TR ρ o R w (cs.getD j .undef) (g j)) →
    (∀ k ∈ ks, ∀ b, ρ k = some b → R' b) → ds.length = cs.length ∧ ∀ j, j < cs.length → DR R' w (ds.getD j .undef) (g j)
  | [], ds, ks, p, g, h, _, _, _ => by
    simp only [frzL, Option.some.injEq, Prod.mk.injEq] at h
    obtain ⟨rfl, rfl, rfl⟩ := h
    exact ⟨rfl, fun j hj => by simp at hj⟩
  | v :: r, ds, ks, p, g, h, hp, hg, hk => by
    simp only [frzL] at h
    have step : ∀ {x : AV} {k : Option Nat} {p1 : Prop} {xs : List AV} {ls : List Nat} {p2 : Prop}, frz1 o v = some (x, k, p1) → frzL o r = some (xs, ls, p2) → p1 → p2 → (∀ j, k = some j → ∀ b, ρ j = some b → R' b) → (∀ k ∈ ls, ∀ b, ρ k = some b → R' b) →
        (x :: xs).length = (v :: r).length ∧ ∀ j, j < (v :: r).length → DR R' w ((x :: xs).getD j .undef) (g j) := by
      intro x k p1 xs ls p2 e1 e2 q1 q2 k1 k2
      obtain ⟨l1, l2⟩ := frzL_DR hh h1 (g := fun j => g (j + 1)) e2 q2 (fun j hj => by have := hg (j + 1) (by simpa using hj); simpa using this) k2
      refine ⟨by simp [l1], fun j hj => ?_⟩
      cases j with
      | zero => exact frz1_DR hh e1 q1 (by have := hg 0 (by simp); simpa using this) h1 k1
      | succ j => simpa using l2 j (by simpa using hj)
    split at h
    · rename_i x p1 xs ls p2 e1 e2
      simp only [Option.some.injEq, Prod.mk.injEq] at h
      obtain ⟨rfl, rfl, rfl⟩ := h
      refine step e1 e2 ?_ hp (fun j hj => by cases hj) hk
      unfold frz1 at e1
      split at e1
      · split at e1
        · rename_i s n f e
          cases hs : Nat.beq s _ with
          | false => rw [hs] at e1; cases e1
          | true => rw [hs] at e1; simp at e1
        · cases e1
      all_goals first
        | (simp only [Option.some.injEq, Prod.mk.injEq] at e1; obtain ⟨_, _, rfl⟩ := e1; trivial)
        | cases e1
    · rename_i x k p1 xs ls p2 e1 e2
      simp only [Option.some.injEq, Prod.mk.injEq] at h
      obtain ⟨rfl, rfl, rfl⟩ := h
      exact step e1 e2 hp.1 hp.2 (fun j hj b hb => by injection hj with hj; subst hj; exact hk _ List.mem_cons_self b hb) fun k hk' => hk k (List.mem_cons_of_mem _ hk')
    · cases h

/-! ### Cells written -/
theorem setCell_heap {b off : Nat} {xs : Array Value} {ty : TypeId} {v : Value} (h : w.heap[b]? = some (.cells xs ty (0, 0))) : (w.setCell ⟨b, off, none⟩ v).heap[b]? = some (.cells (xs.setIfInBounds off v) ty (0, 0)) := by
  simp [World.setCell, Array.getElem?_modify, h]
theorem setCell_heap_ne {b c off : Nat} {v : Value} (h : c ≠ b) : (w.setCell ⟨b, off, none⟩ v).heap[c]? = w.heap[c]? := by
  simp [World.setCell, Array.getElem?_modify, Ne.symm h]
theorem setCells_facts : ∀ (vs : List Value) (off : Nat) {w : World} {b : Nat} {xs : Array Value} {ty : TypeId}, w.heap[b]? = some (.cells xs ty (0, 0)) → off + vs.length ≤ xs.size →
    ∃ ys : Array Value, (w.setCells b off vs).heap[b]? = some (.cells ys ty (0, 0)) ∧ ys.size = xs.size ∧ (∀ j, ys.getD j Go.undef = if off ≤ j ∧ j < off + vs.length then vs.getD (j - off) Go.undef else xs.getD j Go.undef) ∧
      (∀ c, c ≠ b → (w.setCells b off vs).heap[c]? = w.heap[c]?) ∧ (w.setCells b off vs).heap.size = w.heap.size ∧ (w.setCells b off vs).os = w.os ∧ (w.setCells b off vs).tape = w.tape ∧ (w.setCells b off vs).output = w.output
  | [], off, w, b, xs, ty, h, _ => ⟨xs, h, rfl, fun j => by rw [if_neg (by simp only [List.length_nil]; omega)], fun _ _ => rfl, rfl, rfl, rfl, rfl⟩
  | v :: r, off, w, b, xs, ty, h, hl => by
    simp only [List.length_cons] at hl
    obtain ⟨ys, h1, h2, h3, h4, h5, h6, h7, h8⟩ := setCells_facts r (off + 1) (w := w.setCell ⟨b, off, none⟩ v) (setCell_heap h) (by rw [Array.size_setIfInBounds]; omega)
    refine ⟨ys, h1, by rw [h2]; simp, fun j => ?_, fun c hc => (h4 c hc).trans (setCell_heap_ne hc), by rw [World.setCells, h5]; simp [World.setCell], h6, h7, h8⟩
    rw [h3 j]
    simp only [List.length_cons]
    by_cases g1 : off + 1 ≤ j ∧ j < off + 1 + r.length
    · rw [if_pos g1, if_pos (by omega), show j - off = (j - (off + 1)) + 1 by omega, List.getD_cons_succ]
    · rw [if_neg g1]
      by_cases g2 : j = off
      · subst g2
        rw [if_pos (by omega), Nat.sub_self, List.getD_cons_zero, Array.getD_eq_getD_getElem?, Array.getElem?_setIfInBounds_self_of_lt (by omega)]
        rfl
      · rw [if_neg (by omega), Array.getD_eq_getD_getElem?, Array.getElem?_setIfInBounds_ne (Ne.symm g2), ← Array.getD_eq_getD_getElem?]
/-- The world, one local object's block written. -/
structure WR (w w' : World) (b : Nat) (xs ys : Array Value) (ty : TypeId) : Prop where
  old : w.heap[b]? = some (.cells xs ty (0, 0))
  new : w'.heap[b]? = some (.cells ys ty (0, 0))
  sz : ys.size = xs.size
  ne : ∀ c, c ≠ b → w'.heap[c]? = w.heap[c]?
  hs : w'.heap.size = w.heap.size
  os : w'.os = w.os
  tape : w'.tape = w.tape
  output : w'.output = w.output
theorem EX.wr {b : Nat} {xs ys : Array Value} {ty : TypeId} {w' : World} (hw : WR w w' b xs ys ty) {id : Nat} (hid : ρ id = some b) {ob ob' : Obj} (he : o[id]? = some ob)
    (hk : match ob' with | .box _ => ∃ cs, ob = .box cs | .row s _ _ => ∃ n f, ob = .row s n f | .dead => True) : EX o ρ R w (o.set id ob') ρ R w' where
  len := by simp
  keep j hj := by
    by_cases hji : id = j
    · subst hji
      rw [List.getElem?_set_self hj]
      cases ob' with
      | box cs => obtain ⟨ds, rfl⟩ := hk; exact ⟨⟨_, he⟩, rfl⟩
      | row s n f => obtain ⟨m, g, rfl⟩ := hk; exact ⟨⟨_, _, he⟩, rfl⟩
      | dead => trivial
    · rw [List.getElem?_set_ne hji]
      split
      · rename_i h; exact ⟨⟨_, h⟩, rfl⟩
      · rename_i h; exact ⟨⟨_, _, h⟩, rfl⟩
      · trivial
  rmono _ h := h
  rnew _ h := .inl h
  pnew id b h := .inr ⟨id, h⟩
  size := by rw [hw.hs]; exact Nat.le_refl _
  same c _ hc := hw.ne c fun e => hc id (e ▸ hid)
  shape c zs tz h := by
    by_cases hcb : c = b
    · subst hcb
      rw [hw.old] at h
      injection h with h
      injection h with h1 h2 h3
      subst h1 h2
      exact ⟨ys, hw.new, hw.sz⟩
    · exact ⟨zs, (hw.ne c hcb).trans h, rfl⟩
  os := hw.os
  tape := hw.tape
  output := hw.output
theorem HR.wr (hh : HR Gl o ρ R w) {b : Nat} {xs ys : Array Value} {ty : TypeId} {w' : World} (hw : WR w w' b xs ys ty) {id : Nat} (hid : ρ id = some b) {ob ob' : Obj} (he : o[id]? = some ob)
    (hk : match ob' with | .box _ => ∃ cs, ob = .box cs | .row s _ _ => ∃ n f, ob = .row s n f | .dead => True)
    (hob : EX o ρ R w (o.set id ob') ρ R w' → OB ρ (o.set id ob') R w' id ob') : HR Gl (o.set id ob') ρ R w' := by
  have hx : EX o ρ R w (o.set id ob') ρ R w' := EX.wr hw hid he hk
  refine ⟨?_, ?_, hh.inj, ?_, ?_, ?_⟩
  · intro i c h; rw [List.length_set]; exact hh.dom i c h
  · intro i c h; rw [hw.hs]; exact hh.lt i c h
  · intro c hc; rw [hw.hs]; exact hh.ro c hc
  · intro j ob2 h
    by_cases hji : id = j
    · subst hji
      have hj : id < o.length := (List.getElem?_eq_some_iff.1 he).1
      rw [List.getElem?_set_self hj] at h
      injection h with h
      subst h
      exact hob hx
    · rw [List.getElem?_set_ne hji] at h
      exact (hh.obj j ob2 h).go hx hh.ro rfl fun c hc => hw.ne c fun e => hji (hh.inj id j b hid (e ▸ hc))
  · intro p hp
    obtain ⟨h1, h2⟩ := hh.gl p hp
    exact ⟨h1, (hw.ne _ fun e => (hh.ro _ h1).2 id (by rw [e]; exact hid)).trans h2⟩
end
end Go.Proofs.YtbbgojaloebknaaDoor.Vc
