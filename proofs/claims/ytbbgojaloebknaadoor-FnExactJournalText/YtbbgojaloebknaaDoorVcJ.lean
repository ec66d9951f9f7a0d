/- Part J of the engine: append. -/
import Derived.Test.YtbbgojaloebknaaDoorVcI
namespace Go.Proofs.YtbbgojaloebknaaDoor.Vc
section
variable {P : Program} {TB : TypeId → TI} {ρ : Nat → Option Nat} {o : List Obj} {R : Nat → Prop} {w : World} {t : Fr} {a : Act} {Gl : List (Nat × Go.Obj)}

theorem src_cells {tx e' : TypeId} (hk : P.underlying tx = some (.slice e')) {n m cap : Nat} (hn : 1 ≤ n) {ad : Addr} {g : Nat → List AV} {G : Nat → Nat → Value} (h4 : ∀ i, i < m → ∀ j, j < n → w.cell? (ad.add (i * n + j)) = some (G i j))
    (h5 : ∀ i, i < m → ∀ j, j < n → DR R w ((g i).getD j .undef) (G i j)) :
    ∃ news : List Value, Src P n tx (.slice (some ad) m cap) m news w ∧ ∀ i, i < m → ∀ j, j < n → DR R w ((g i).getD j .undef) (news.getD (i * n + j) Go.undef) := by
  refine ⟨(List.range (m * n)).map fun k => G (k / n) (k % n), Src.ofSlice w hk ad m cap _ (by simp) (fun k u hu => ?_) (fun u hu => ?_), fun i hi j hj => ?_⟩
  · rw [List.getElem?_map] at hu
    by_cases hk' : k < m * n
    · rw [List.getElem?_range hk'] at hu
      simp at hu
      subst hu
      have h1 : k / n < m := Nat.div_lt_of_lt_mul (by rw [Nat.mul_comm]; exact hk')
      have h2 : k % n < n := Nat.mod_lt _ (by omega)
      have := h4 _ h1 _ h2
      rwa [Nat.div_add_mod' k n] at this
    · rw [List.getElem?_eq_none (by simpa using hk')] at hu
      simp at hu
  · obtain ⟨k, hk', rfl⟩ := List.mem_map.1 hu
    have hk' : k < m * n := by simpa using hk'
    exact DR_one (h5 _ (Nat.div_lt_of_lt_mul (by rw [Nat.mul_comm]; exact hk')) _ (Nat.mod_lt _ (by omega)))
  · have hin : (i + 1) * n ≤ m * n := Nat.mul_le_mul_right _ hi
    rw [Nat.add_mul, Nat.one_mul] at hin
    have e : ((List.range (m * n)).map fun k => G (k / n) (k % n)).getD (i * n + j) Go.undef = G i j := by
      rw [List.getD_eq_getElem?_getD, List.getElem?_map, List.getElem?_range (by omega)]
      simp only [Option.map_some, Option.getD_some]
      rw [Nat.mul_comm i n, Nat.mul_add_div (by omega), Nat.div_eq_of_lt hj, Nat.mul_add_mod, Nat.mod_eq_of_lt hj, Nat.add_zero]
    rw [e]
    exact h5 i hi j hj
theorem src_none {tx e' : TypeId} (hk : P.underlying tx = some (.slice e')) {n cap : Nat} (b : Option Addr) : Src P n tx (.slice b 0 cap) 0 [] w := by
  cases b with
  | none => exact Src.ofNil w hk cap
  | some ad => exact Src.ofSlice w hk ad 0 cap [] (by simp) (fun _ _ h => by simp at h) (fun _ h => by cases h)
theorem src_ok (hh : HR Gl o ρ R w) {tx e' : TypeId} (hk : P.underlying tx = some (.slice e')) {n m lo hi : Nat} (hn : 1 ≤ n) {g : Nat → List AV} {v : AV} {y : Value} (h : srcOf o n v = some (m, g, lo, hi)) (hl : lo ≤ hi) (hv : TR ρ o R w v y) :
    ∃ news : List Value, Src P n tx y m news w ∧ (∀ i, i < m → (g i).length = n) ∧ ∀ i, i < m → ∀ j, j < n → DR R w ((g i).getD j .undef) (news.getD (i * n + j) Go.undef) := by
  unfold srcOf at h
  split at h
  · simp only [Option.some.injEq, Prod.mk.injEq] at h
    obtain ⟨rfl, rfl, rfl, rfl⟩ := h
    obtain ⟨b, rfl⟩ := hv.nils
    exact ⟨[], src_none hk b, fun i hi => absurd hi (Nat.not_lt_zero _), fun i hi => absurd hi (Nat.not_lt_zero _)⟩
  · rename_i s m' g'
    cases hs : Nat.beq s n with
    | false => rw [hs] at h; cases h
    | true =>
      rw [hs] at h
      simp only [cond_true, Option.some.injEq, Prod.mk.injEq] at h
      obtain ⟨rfl, rfl, rfl, rfl⟩ := h
      have hs := Nat.eq_of_beq_eq_true hs
      subst hs
      obtain ⟨b, c, rfl, hd⟩ := hv.sl
      cases hd with
      | sl0 => exact ⟨[], src_none hk b, fun i hi => absurd hi (Nat.not_lt_zero _), fun i hi => absurd hi (Nat.not_lt_zero _)⟩
      | sl _ _ _ ad cap G h1 h2 h3 h4 h5 =>
        obtain ⟨news, q1, q2⟩ := src_cells hk hn h4 h5
        exact ⟨news, q1, h3, q2⟩
  · rename_i id sz off len
    split at h
    · rename_i s m' f e
      cases hs : (Nat.beq s sz && Nat.beq s n) with
      | false => rw [hs] at h; cases h
      | true =>
        rw [hs] at h
        simp only [cond_true, Option.some.injEq, Prod.mk.injEq] at h
        obtain ⟨rfl, rfl, rfl, rfl⟩ := h
        rw [Bool.and_eq_true] at hs
        rcases hv.row e hs.1 with ⟨h0, b, rfl⟩ | ⟨b, cs, ty, cap, rfl, hr, hc, h1, h2⟩
        · subst h0
          exact ⟨[], src_none hk b, fun i hi => absurd hi (Nat.not_lt_zero _), fun i hi => absurd hi (Nat.not_lt_zero _)⟩
        · have hs1 := Nat.eq_of_beq_eq_true hs.1
          have hs2 := Nat.eq_of_beq_eq_true hs.2
          subst hs1 hs2
          rcases hh.obj id _ e with ⟨h3, _⟩ | ⟨b', xs, ty', q1, q2, q3, q4, q5⟩
          · have : len = 0 := by omega
            subst this
            exact ⟨[], src_none hk _, fun i hi => absurd hi (Nat.not_lt_zero _), fun i hi => absurd hi (Nat.not_lt_zero _)⟩
          · rw [hr] at q1
            injection q1 with q1
            subst q1
            rw [hc] at q2
            injection q2 with q2
            injection q2 with q2 q6 q7
            subst q2
            obtain ⟨news, p1, p2⟩ := src_cells (w := w) (R := R) (ad := ⟨b, off * s, none⟩) (m := len) (cap := cap) (g := fun i => f (off + i)) (G := fun i j => cs.getD ((off + i) * s + j) Go.undef) hk hn (fun i hi j hj => by
              rw [Addr.add_mid, show off * s + (i * s + j) = (off + i) * s + j by rw [Nat.add_mul]; omega]
              refine cell_block hc ?_
              have : (off + i + 1) * s ≤ m' * s := Nat.mul_le_mul_right _ (by omega)
              rw [Nat.add_mul, Nat.one_mul] at this
              omega) (fun i hi j hj => q5 (off + i) (by omega) j hj)
            exact ⟨news, p1, fun i hi => q4 _ (by omega), p2⟩
    · cases h
  · cases h

/-! ### A local object under a new number; an empty row -/
def ρmove (ρ : Nat → Option Nat) (id n : Nat) : Nat → Option Nat := fun j => if j = id then none else if j = n then ρ id else ρ j
theorem EX.move (_hh : HR Gl o ρ R w) {id : Nat} (_hid : id < o.length) (ob : Obj) : EX o ρ R w (o.set id .dead ++ [ob]) (ρmove ρ id o.length) R w where
  len := by simp
  keep j hj := by
    rw [List.getElem?_append_left (by simpa using hj)]
    by_cases hji : id = j
    · subst hji
      rw [List.getElem?_set_self hj]
      trivial
    · rw [List.getElem?_set_ne hji]
      have e : ρmove ρ id o.length j = ρ j := by unfold ρmove; rw [if_neg (Ne.symm hji), if_neg (by omega)]
      rw [e]
      split
      · rename_i h; exact ⟨⟨_, h⟩, rfl⟩
      · rename_i h; exact ⟨⟨_, _, h⟩, rfl⟩
      · trivial
  rmono _ h := h
  rnew _ h := .inl h
  pnew j b h := by
    unfold ρmove at h
    split at h
    · cases h
    · split at h
      · exact .inr ⟨id, h⟩
      · exact .inr ⟨j, h⟩
  size := Nat.le_refl _
  same _ _ _ := rfl
  shape _ ys _ h := ⟨ys, h, rfl⟩
  os := rfl
  tape := rfl
  output := rfl
theorem HR.move (hh : HR Gl o ρ R w) {id : Nat} (hid : id < o.length) {ob : Obj} (hob : EX o ρ R w (o.set id .dead ++ [ob]) (ρmove ρ id o.length) R w → OB (ρmove ρ id o.length) (o.set id .dead ++ [ob]) R w o.length ob) :
    HR Gl (o.set id .dead ++ [ob]) (ρmove ρ id o.length) R w := by
  have hx := EX.move hh hid ob
  have hn : ∀ j b, ρmove ρ id o.length j = some b → j ≠ id ∧ ((j = o.length ∧ ρ id = some b) ∨ (j < o.length ∧ ρ j = some b)) := by
    intro j b h
    unfold ρmove at h
    split at h
    · cases h
    · rename_i h1
      split at h
      · rename_i h2; exact ⟨h1, .inl ⟨h2, h⟩⟩
      · exact ⟨h1, .inr ⟨hh.dom j b h, h⟩⟩
  refine ⟨?_, ?_, ?_, ?_, ?_, hh.gl⟩
  · intro j b h
    simp only [List.length_append, List.length_set, List.length_cons, List.length_nil]
    rcases (hn j b h).2 with ⟨h, _⟩ | ⟨h, _⟩ <;> omega
  · intro j b h
    rcases (hn j b h).2 with ⟨_, h⟩ | ⟨_, h⟩
    · exact hh.lt id b h
    · exact hh.lt j b h
  · intro i j b hi hj
    obtain ⟨i1, i2⟩ := hn i b hi
    obtain ⟨j1, j2⟩ := hn j b hj
    rcases i2 with ⟨i2, i3⟩ | ⟨i2, i3⟩ <;> rcases j2 with ⟨j2, j3⟩ | ⟨j2, j3⟩
    · omega
    · exact absurd (hh.inj id j b i3 j3).symm j1
    · exact absurd (hh.inj id i b j3 i3).symm i1
    · exact hh.inj i j b i3 j3
  · intro b hb
    refine ⟨(hh.ro b hb).1, fun j h => ?_⟩
    rcases (hn j b h).2 with ⟨_, h⟩ | ⟨_, h⟩
    · exact (hh.ro b hb).2 id h
    · exact (hh.ro b hb).2 j h
  · intro j ob' h
    by_cases hj : j < o.length
    · rw [List.getElem?_append_left (by simpa using hj)] at h
      by_cases hji : id = j
      · subst hji
        rw [List.getElem?_set_self hj] at h
        injection h with h
        subst h
        show ρmove ρ id o.length id = none
        unfold ρmove
        rw [if_pos rfl]
      · rw [List.getElem?_set_ne hji] at h
        exact (hh.obj j ob' h).go hx hh.ro (by unfold ρmove; rw [if_neg (Ne.symm hji), if_neg (by omega)]) fun _ _ => rfl
    · have hj' : j = o.length := by
        have := (List.getElem?_eq_some_iff.1 h).1
        simp at this
        omega
      subst hj'
      rw [List.getElem?_append_right (by simp)] at h
      simp at h
      subst h
      exact hob hx
theorem EX.empty (sz : Nat) (f : Nat → List AV) : EX o ρ R w (o ++ [.row sz 0 f]) ρ R w where
  len := by simp
  keep j hj := by
    rw [List.getElem?_append_left hj]
    exact (EX.refl o ρ R w).keep j hj
  rmono _ h := h
  rnew _ h := .inl h
  pnew j b h := .inr ⟨j, h⟩
  size := Nat.le_refl _
  same _ _ _ := rfl
  shape _ ys _ h := ⟨ys, h, rfl⟩
  os := rfl
  tape := rfl
  output := rfl
theorem HR.empty (hh : HR Gl o ρ R w) (sz : Nat) (f : Nat → List AV) : HR Gl (o ++ [.row sz 0 f]) ρ R w := by
  refine ⟨fun j b h => ?_, hh.lt, hh.inj, hh.ro, fun j ob h => ?_, hh.gl⟩
  · have := hh.dom j b h
    simp; omega
  · by_cases hj : j < o.length
    · rw [List.getElem?_append_left hj] at h
      exact (hh.obj j ob h).go (EX.empty sz f) hh.ro rfl fun _ _ => rfl
    · have hj' : j = o.length := by
        have := (List.getElem?_eq_some_iff.1 h).1
        simp at this
        omega
      subst hj'
      rw [List.getElem?_append_right (Nat.le_refl _)] at h
      simp at h
      subst h
      refine .inl ⟨rfl, ?_⟩
      cases e : ρ o.length with
      | none => rfl
      | some b => exact absurd (hh.dom _ b e) (Nat.lt_irrefl _)
end
end Go.Proofs.YtbbgojaloebknaaDoor.Vc
