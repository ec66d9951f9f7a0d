/- Part ZH: the arguments, opened. -/
import Derived.Test.YtbbgojaloebknaaVcZF
import Derived.WalkKit
import Derived.ProofKit
import Derived.OpenShut
import Derived.ShutString
import Derived.ChangeOld
import Derived.Below
import Derived.SizedLaws
import Derived.Carry
import Derived.Deep.Strs
namespace Go.Proofs.Ytbbgojaloebknaa.Vc
open Go.Proofs Go.ChangeShapes Go.WideShapes Go.ChangeAt Go.RowKit
open Go.Deep (trod_struct3)
section
variable {H : Type} {enc : TypeId × Value → H} {P : Program} {w : World} {spare : Nat → Bool} {held : Bool} {R : Nat → Prop}
theorem add_zero' (a : Addr) : a.add 0 = a := add_zero a
theorem i64_wf {n : Int} (h : (Lit.int .i64 n).wf = true) : i64r n := by
  simp only [Lit.wf, Bool.and_eq_true, decide_eq_true_eq] at h
  exact h
def Rw0 (w : World) : Nat → Prop := fun b => b < w.heap.size
theorem cell_lt {a : Addr} {v : Value} (h : w.cell? a = some v) : a.block < w.heap.size := by
  unfold World.cell? at h
  rcases Nat.lt_or_ge a.block w.heap.size with h1 | h1
  · exact h1
  · rw [Array.getElem?_eq_none h1] at h; cases h
theorem take_len {α : Type} {l : List α} {n : Nat} (h : n ≤ l.length) : (l.take n).length = n := by rw [List.length_take]; omega
theorem op_ints {t e : TypeId} {fuel : Nat} {v : Value} {x : DataW H × List MemPlace} (ht : P.underlying t = some (.slice e)) (he : P.underlying e = some (.int .i64)) (hc : P.cellsOf e = 1) (h : DataW.trod enc P w 0 spare held fuel t [v] = some x) :
    ∃ l : List Int, DR (Rw0 w) w (slI l) v ∧ (∀ n ∈ l, i64r n) ∧ l.length < 9223372036854775808 := by
  rcases open_ints ht he hc h with ⟨hcs, _⟩ | ⟨a, len, cap, zs, hcs, _, hl, hm, hz, _, hcell, hw⟩
  · simp only [List.cons.injEq, and_true] at hcs
    subst hcs
    exact ⟨[], .sl0 _ _ _ _, fun n hn => (by cases hn), by decide⟩
  · simp only [List.cons.injEq, and_true] at hcs
    subst hcs
    have hlz : len ≤ zs.length := by rw [hz]; split <;> omega
    have hln := take_len hlz
    refine ⟨zs.take len, ?_, fun n hn => i64_wf (hw n (List.mem_of_mem_take hn)), by rw [hln]; have : maxLen = 9223372036854775807 := rfl; omega⟩
    show DR (Rw0 w) w (.sl 1 (zs.take len).length fun i => encI ((zs.take len).getD i 0)) _
    rw [hln]
    rcases Nat.eq_zero_or_pos len with rfl | hpos
    · exact .sl0 _ _ _ _
    have h0 := hcell 0 (by omega)
    have hb := cell_lt h0
    rw [add_block] at hb
    refine .sl 1 len _ a cap (fun i _ => .int .i64 (zs.getD i 0)) hl hb (fun i hi => rfl) (fun i hi j hj => ?_) (fun i hi j hj => ?_)
    · have : j = 0 := by omega
      subst this
      rw [Nat.mul_one, Nat.add_zero]
      exact hcell i (by omega)
    · have : j = 0 := by omega
      subst this
      have e : (zs.take len).getD i 0 = zs.getD i 0 := by
        simp only [List.getD_eq_getElem?_getD]
        rw [List.getElem?_take_of_lt hi]
      show DR _ _ (.int .i64 ((zs.take len).getD i 0)) _
      rw [e]
      exact .int _ _
theorem op_mark {t : TypeId} {f0 f1 f2 : Field} {fuel : Nat} {cs : List Value} {x : DataW H × List MemPlace} (ht : P.underlying t = some (.struct #[f0, f1, f2])) (ce : P.cellsOf t = 3) (o0 : f0.offset = 0) (o1 : f1.offset = 1) (o2 : f2.offset = 2)
    (k0 : P.underlying f0.type = some (.int .i64)) (k1 : P.underlying f1.type = some (.int .i64)) (k2 : P.underlying f2.type = some (.int .i64)) (c0 : P.cellsOf f0.type = 1) (c1 : P.cellsOf f1.type = 1) (c2 : P.cellsOf f2.type = 1)
    (h : DataW.trod enc P w 0 spare held fuel t cs = some x) : ∃ m : Mark, cs = [.int .i64 m.kind, .int .i64 m.at_, .int .i64 m.need] ∧ m.i64 := by
  obtain ⟨y0, y1, y2, n, _, hl, g0, g1, g2⟩ := trod_struct3 ht h
  rw [ce] at hl
  match cs, hl with
  | [v0, v1, v2], _ =>
    simp [o0, o1, o2, c0, c1, c2] at g0 g1 g2
    obtain ⟨a, e0, _, w0⟩ := DataW.trod_int k0 g0
    obtain ⟨b, e1, _, w1⟩ := DataW.trod_int k1 g1
    obtain ⟨c, e2, _, w2⟩ := DataW.trod_int k2 g2
    simp only [List.cons.injEq, and_true] at e0 e1 e2
    subst e0 e1 e2
    exact ⟨⟨a, b, c⟩, rfl, i64_wf w0, i64_wf w1, i64_wf w2⟩
theorem choose_lt' {α : Type} [Inhabited α] {n : Nat} {p : Nat → α → Prop} (h : ∀ i, i < n → ∃ y, p i y) : ∃ l : List α, l.length = n ∧ ∀ i, i < n → p i (l.getD i default) := by
  induction n with
  | zero => exact ⟨[], rfl, fun i hi => absurd hi (Nat.not_lt_zero _)⟩
  | succ n ih =>
    obtain ⟨l, h1, h2⟩ := ih fun i hi => h i (by omega)
    obtain ⟨y, hy⟩ := h n (by omega)
    refine ⟨l ++ [y], by simp [h1], fun i hi => ?_⟩
    by_cases hin : i < n
    · have := h2 i hin
      rwa [List.getD_eq_getElem?_getD, List.getElem?_append_left (by omega), ← List.getD_eq_getElem?_getD]
    · have : i = n := by omega
      subst this
      rw [List.getD_eq_getElem?_getD, List.getElem?_append_right (by omega), h1]
      simpa using hy
theorem op_marks {t e : TypeId} {f0 f1 f2 : Field} {fuel : Nat} {v : Value} {x : DataW H × List MemPlace} (ht : P.underlying t = some (.slice e)) (he : P.underlying e = some (.struct #[f0, f1, f2])) (ce : P.cellsOf e = 3) (o0 : f0.offset = 0) (o1 : f1.offset = 1) (o2 : f2.offset = 2)
    (k0 : P.underlying f0.type = some (.int .i64)) (k1 : P.underlying f1.type = some (.int .i64)) (k2 : P.underlying f2.type = some (.int .i64)) (c0 : P.cellsOf f0.type = 1) (c1 : P.cellsOf f1.type = 1) (c2 : P.cellsOf f2.type = 1)
    (h : DataW.trod enc P w 0 spare held fuel t [v] = some x) : ∃ l : List Mark, DR (Rw0 w) w (slM l) v ∧ (∀ m ∈ l, m.i64) ∧ l.length < 9223372036854775808 := by
  rcases DataW.trod_slice ht h with ⟨hcs, _⟩ | ⟨a, len, cap, elems, rest, n, _, hcs, _, _, hl, hm, hel, hx, _, _⟩
  · simp only [List.cons.injEq, and_true] at hcs
    subst hcs
    exact ⟨[], .sl0 _ _ _ _, fun n hn => (by cases hn), by decide⟩
  · simp only [List.cons.injEq, and_true] at hcs
    subst hcs
    rw [ce] at hx
    have each : ∀ i, i < len → ∃ m : Mark, m.i64 ∧ ∀ j, j < 3 → w.cell? (a.add (i * 3 + j)) = some ((([.int .i64 m.kind, .int .i64 m.at_, .int .i64 m.need] : List Value)).getD j Go.undef) := by
      intro i hi
      have h1 := hx i hi
      rw [List.getElem?_eq_getElem (by omega), Option.bind_eq_some_iff] at h1
      obtain ⟨cs, h2, h3⟩ := h1
      obtain ⟨_, hlen, hcell⟩ := World.cells?_some h2
      obtain ⟨m, rfl, hmi⟩ := op_mark he ce o0 o1 o2 k0 k1 k2 c0 c1 c2 h3
      refine ⟨m, hmi, fun j hj => ?_⟩
      have := hcell j hj
      rw [add_add] at this
      rw [this, List.getD_eq_getElem?_getD, List.getElem?_eq_getElem (by simpa using hj)]
      rfl
    obtain ⟨l, h1, h2⟩ := choose_lt' each
    subst h1
    refine ⟨l, ?_, all_of_getD (d := default) fun i hi => (h2 i hi).1, by have : maxLen = 9223372036854775807 := rfl; omega⟩
    rcases Nat.eq_zero_or_pos l.length with h0 | hpos
    · show DR _ _ (.sl 3 l.length _) (.slice _ l.length _)
      rw [h0]
      exact .sl0 _ _ _ _
    have hb := cell_lt ((h2 0 hpos).2 0 (by decide))
    rw [add_block] at hb
    refine .sl 3 l.length _ a cap (fun i j => (([.int .i64 (l.getD i default).kind, .int .i64 (l.getD i default).at_, .int .i64 (l.getD i default).need] : List Value)).getD j Go.undef) hl hb (fun i hi => rfl) (fun i hi j hj => (h2 i hi).2 j hj) (fun i hi j hj => ?_)
    match j, hj with
    | 0, _ => exact .int _ _
    | 1, _ => exact .int _ _
    | 2, _ => exact .int _ _
theorem op_house {t ti : TypeId} {f0 f1 : Field} {v : Value} {d : DataW H} {ps : List MemPlace} {r : Reach} {b0 : Nat} (ht : P.underlying t = some (.struct #[f0, f1])) (ce : P.cellsOf t = 2) (o0 : f0.offset = 0) (o1 : f1.offset = 1)
    (k0 : P.underlying f0.type = some (.int .i64)) (c0 : P.cellsOf f0.type = 1) (k1 : P.underlying f1.type = some (.slice ti)) (c1 : P.cellsOf f1.type = 1) (ki : P.underlying ti = some (.int .i64)) (ci : P.cellsOf ti = 1)
    (hv : Value.okWide P w r b0 t v) (h : DataW.Trod enc P w 0 spare held t v d ps) : ∃ h : House, PV (Rw0 w) w (enH h) v ∧ h.i64 ∧ h.bs.length < 9223372036854775808 := by
  obtain ⟨cs, rfl, hcs⟩ := okWide_struct ht hv
  obtain ⟨fuel, hf⟩ := h
  obtain ⟨y0, y1, n, _, hl, g0, g1⟩ := trod_struct2 ht hf
  have e0 : (Value.agg cs).cells.toList = cs.toList := rfl
  rw [e0] at g0 g1 hl
  rw [ce] at hl
  obtain ⟨cs⟩ := cs
  match cs, hl with
  | [v0, v1], _ =>
    simp [o0, o1, c0, c1] at g0 g1
    obtain ⟨p, e1, _, w0⟩ := DataW.trod_int k0 g0
    simp only [List.cons.injEq, and_true] at e1
    subst e1
    obtain ⟨l, q1, q2, q3⟩ := op_ints k1 ki ci g1
    refine ⟨⟨p, l⟩, .agg _ _ rfl fun j hj => ?_, ⟨i64_wf w0, q2⟩, q3⟩
    match j, hj with
    | 0, _ => exact .data (.int _ _)
    | 1, _ => exact .data q1
end
end Go.Proofs.Ytbbgojaloebknaa.Vc
