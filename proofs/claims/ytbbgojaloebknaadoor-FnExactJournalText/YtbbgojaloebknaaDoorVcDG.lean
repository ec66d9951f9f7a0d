/- Part DG: lists of deeds, opened. -/
import Derived.Test.YtbbgojaloebknaaDoorVcDN
import Derived.Test.YtbbgojaloebknaaDoorVcDF
namespace Go.Proofs.YtbbgojaloebknaaDoor.Vc
open Go.Proofs Go.ChangeShapes Go.WideShapes Go.ChangeAt Go.RowKit
theorem cell_lt {w : World} {a : Addr} {v : Value} (h : w.cell? a = some v) : a.block < w.heap.size := by
  unfold World.cell? at h
  rcases Nat.lt_or_ge a.block w.heap.size with h1 | h1
  · exact h1
  · rw [Array.getElem?_eq_none h1] at h; cases h
section
variable {H : Type} {enc : TypeId × Value → H} {P : Program} {w : World} {spare : Nat → Bool} {held : Bool} {R : Nat → Prop}
def vD (m : Dd) : List Value := [.int .i64 m.kind, .int .i64 m.a, .int .i64 m.b, .string m.words]
theorem op_deed1 {t : TypeId} {f0 f1 f2 f3 : Field} {fuel : Nat} {cs : List Value} {x : DataW H × List MemPlace} (ht : P.underlying t = some (.struct #[f0, f1, f2, f3])) (ce : P.cellsOf t = 4) (o0 : f0.offset = 0) (o1 : f1.offset = 1) (o2 : f2.offset = 2) (o3 : f3.offset = 3)
    (k0 : P.underlying f0.type = some (.int .i64)) (k1 : P.underlying f1.type = some (.int .i64)) (k2 : P.underlying f2.type = some (.int .i64)) (k3 : P.underlying f3.type = some .string)
    (c0 : P.cellsOf f0.type = 1) (c1 : P.cellsOf f1.type = 1) (c2 : P.cellsOf f2.type = 1) (c3 : P.cellsOf f3.type = 1)
    (h : DataW.trod enc P w 0 spare held fuel t cs = some x) : ∃ m : Dd, cs = vD m ∧ m.i64 := by
  obtain ⟨y0, y1, y2, y3, n, _, hl, g0, g1, g2, g3⟩ := Go.Joins.trod_struct4 ht h
  rw [ce] at hl
  match cs, hl with
  | [v0, v1, v2, v3], _ =>
    simp [o0, o1, o2, o3, c0, c1, c2, c3] at g0 g1 g2 g3
    obtain ⟨k, e1, _, w0⟩ := DataW.trod_int k0 g0
    obtain ⟨a, e2, _, w1⟩ := DataW.trod_int k1 g1
    obtain ⟨b, e3, _, w2⟩ := DataW.trod_int k2 g2
    obtain ⟨s, e4, _, w3⟩ := DataW.trod_string k3 g3
    simp only [List.cons.injEq, and_true] at e1 e2 e3 e4
    subst e1; subst e2; subst e3; subst e4
    have : maxLen = 9223372036854775807 := rfl
    exact ⟨⟨k, a, b, s⟩, rfl, i64_wf w0, i64_wf w1, i64_wf w2, by show s.size < _; omega⟩
theorem choose_lt' {α : Type} [Inhabited α] {n : Nat} {p : Nat → α → Prop} (h : ∀ i, i < n → ∃ y, p i y) : ∃ l : List α, l.length = n ∧ ∀ i, i < n → p i (l.getD i default) := by
  induction n with
  | zero => exact ⟨[], rfl, fun i hi => absurd hi (Nat.not_lt_zero _)⟩
  | succ n ih =>
    obtain ⟨l, h1, h2⟩ := ih fun i hi => h i (by omega)
    obtain ⟨y, hy⟩ := h n (by omega)
    refine ⟨l ++ [y], by simp [h1], fun i hi => ?_⟩
    by_cases hin : i < n
    · have := h2 i hin
      rwa [List.getD_eq_getElem?_getD, List.getElem?_append_left (by omega), ← List.getD_eq_getElem?_getD]
    · have : i = n := by omega
      subst this
      rw [List.getD_eq_getElem?_getD, List.getElem?_append_right (by omega), h1]
      simpa using hy
theorem all_of_getD' {α : Type} {l : List α} {d : α} {p : α → Prop} (h : ∀ i, i < l.length → p (l.getD i d)) : ∀ m ∈ l, p m := by
  intro m hm
  obtain ⟨i, hi, rfl⟩ := List.getElem_of_mem hm
  have := h i hi
  rwa [List.getD_eq_getElem?_getD, List.getElem?_eq_getElem hi] at this
theorem op_deeds {t e : TypeId} {f0 f1 f2 f3 : Field} {fuel : Nat} {v : Value} {x : DataW H × List MemPlace} (ht : P.underlying t = some (.slice e)) (he : P.underlying e = some (.struct #[f0, f1, f2, f3])) (ce : P.cellsOf e = 4) (o0 : f0.offset = 0) (o1 : f1.offset = 1) (o2 : f2.offset = 2) (o3 : f3.offset = 3)
    (k0 : P.underlying f0.type = some (.int .i64)) (k1 : P.underlying f1.type = some (.int .i64)) (k2 : P.underlying f2.type = some (.int .i64)) (k3 : P.underlying f3.type = some .string)
    (c0 : P.cellsOf f0.type = 1) (c1 : P.cellsOf f1.type = 1) (c2 : P.cellsOf f2.type = 1) (c3 : P.cellsOf f3.type = 1)
    (h : DataW.trod enc P w 0 spare held fuel t [v] = some x) : ∃ l : List Dd, DR (Rw0 w) w (slD l) v ∧ (∀ m ∈ l, m.i64) ∧ l.length < 9223372036854775808 := by
  rcases DataW.trod_slice ht h with ⟨hcs, _⟩ | ⟨a, len, cap, elems, rest, n, _, hcs, _, _, hl, hm, hel, hx, _, _⟩
  · simp only [List.cons.injEq, and_true] at hcs
    subst hcs
    exact ⟨[], .sl0 _ _ _ _, fun n hn => (by cases hn), by decide⟩
  · simp only [List.cons.injEq, and_true] at hcs
    subst hcs
    rw [ce] at hx
    have each : ∀ i, i < len → ∃ m : Dd, m.i64 ∧ ∀ j, j < 4 → w.cell? (a.add (i * 4 + j)) = some ((vD m).getD j Go.undef) := by
      intro i hi
      have h1 := hx i hi
      rw [List.getElem?_eq_getElem (by omega), Option.bind_eq_some_iff] at h1
      obtain ⟨cs, h2, h3⟩ := h1
      obtain ⟨_, hlen, hcell⟩ := World.cells?_some h2
      obtain ⟨m, rfl, hmi⟩ := op_deed1 he ce o0 o1 o2 o3 k0 k1 k2 k3 c0 c1 c2 c3 h3
      refine ⟨m, hmi, fun j hj => ?_⟩
      have := hcell j hj
      rw [add_add] at this
      rw [this, List.getD_eq_getElem?_getD, List.getElem?_eq_getElem (by simpa [vD] using hj)]
      rfl
    obtain ⟨l, h1, h2⟩ := choose_lt' each
    subst h1
    refine ⟨l, ?_, all_of_getD' (d := default) fun i hi => (h2 i hi).1, by have : maxLen = 9223372036854775807 := rfl; omega⟩
    rcases Nat.eq_zero_or_pos l.length with h0 | hpos
    · show DR _ _ (.sl 4 l.length _) (.slice _ l.length _)
      rw [h0]
      exact .sl0 _ _ _ _
    have hb := cell_lt ((h2 0 hpos).2 0 (by decide))
    rw [add_block] at hb
    refine .sl 4 l.length _ a cap (fun i j => (vD (l.getD i default)).getD j Go.undef) hl hb (fun i hi => rfl) (fun i hi j hj => (h2 i hi).2 j hj) (fun i hi j hj => ?_)
    match j, hj with
    | 0, _ => exact .int _ _
    | 1, _ => exact .int _ _
    | 2, _ => exact .int _ _
    | 3, _ => exact .str _
end
end Go.Proofs.YtbbgojaloebknaaDoor.Vc
