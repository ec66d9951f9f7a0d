/- Part ZN: rows: arguments opened, a contract as a call that leaves all that was there. -/
import Derived.Test.YtbbgojaloebknaaVcZH
import Derived.Test.YtbbgojaloebknaaVcZO
import Derived.Test.YtbbgojaloebknaaRows
namespace Go.Proofs.Ytbbgojaloebknaa.Vc
open Go.Proofs Go.ChangeShapes Go.WideShapes Go.ChangeAt Go.RowKit
theorem own : ownKnob Try.prog.godebug = none := by kernel_rfl
theorem laidOut : laidOutB Try.prog = true := by kernel_rfl
/-- A contract, as a call of ours that leaves all that was there. -/
theorem Fits.below {P : Program} {f : FuncId} {C : List AV → (AV → Prop) → Prop} (hF : Fits P [] f C) {us : List AV} {b : Bool} (h : C us fun r => r = .bool b) {w : World} {xs : Array Value} (ha : ArgsV (Rw0 w) w us xs) :
    Calls P f xs w fun e w' => e = .returned (.bool b) ∧ Below w.heap.size w w' :=
  (hF.ok us _ h (Rw0 w) w xs ⟨fun _ h => h, fun p hp => (by cases hp)⟩ ha).mono fun e w' he => by
    obtain ⟨r, x, R', rfl, rfl, hv, hA⟩ := he
    cases hv with
    | data hd => cases hd; exact ⟨rfl, hA.os, hA.tape, hA.output, hA.size, hA.same⟩
section
variable {H : Type} {enc : TypeId × Value → H} {P : Program} {w : World} {spare : Nat → Bool} {held : Bool} {R : Nat → Prop}
theorem op_int {t : TypeId} {v : Value} {d : DataW H} {ps : List MemPlace} {r : Reach} {b0 : Nat} (ht : P.underlying t = some (.int .i64)) (hv : Value.okWide P w r b0 t v) (h : DataW.Trod enc P w 0 spare held t v d ps) : ∃ n : Int, v = .int .i64 n ∧ i64r n := by
  obtain ⟨n, rfl⟩ := okWide_int ht hv
  obtain ⟨fuel, hf⟩ := h
  obtain ⟨m, e1, _, w0⟩ := DataW.trod_int ht hf
  have e2 : (Value.int .i64 n).cells.toList = [.int .i64 n] := rfl
  rw [e2] at e1
  cases e1
  exact ⟨n, rfl, i64_wf w0⟩
theorem u8_wf {n : Int} (h : (Lit.int .u8 n).wf = true) : u8r n := by
  simp only [Lit.wf, Bool.and_eq_true, decide_eq_true_eq] at h
  obtain ⟨h1, h2⟩ := h
  have e1 : IntKind.u8.min = 0 := by decide
  have e2 : IntKind.u8.max = 255 := by decide
  unfold u8r
  omega
theorem op_bytes {t e : TypeId} {fuel : Nat} {v : Value} {x : DataW H × List MemPlace} (ht : P.underlying t = some (.slice e)) (he : P.underlying e = some (.int .u8)) (hc : P.cellsOf e = 1) (h : DataW.trod enc P w 0 spare held fuel t [v] = some x) :
    ∃ l : List Int, DR (Rw0 w) w (slB l) v ∧ (∀ n ∈ l, u8r n) ∧ l.length < 9223372036854775808 := by
  rcases open_ints ht he hc h with ⟨hcs, _⟩ | ⟨a, len, cap, zs, hcs, _, hl, hm, hz, _, hcell, hw⟩
  · simp only [List.cons.injEq, and_true] at hcs
    subst hcs
    exact ⟨[], .sl0 _ _ _ _, fun n hn => (by cases hn), by decide⟩
  · simp only [List.cons.injEq, and_true] at hcs
    subst hcs
    have hlz : len ≤ zs.length := by rw [hz]; split <;> omega
    have hln := take_len hlz
    refine ⟨zs.take len, ?_, fun n hn => u8_wf (hw n (List.mem_of_mem_take hn)), by rw [hln]; have : maxLen = 9223372036854775807 := rfl; omega⟩
    show DR (Rw0 w) w (.sl 1 (zs.take len).length fun i => [.int .u8 ((zs.take len).getD i 0)]) _
    rw [hln]
    rcases Nat.eq_zero_or_pos len with rfl | hpos
    · exact .sl0 _ _ _ _
    have h0 := hcell 0 (by omega)
    have hb := cell_lt h0
    rw [add_block] at hb
    refine .sl 1 len _ a cap (fun i _ => .int .u8 (zs.getD i 0)) hl hb (fun i hi => rfl) (fun i hi j hj => ?_) (fun i hi j hj => ?_)
    · have : j = 0 := by omega
      subst this
      rw [Nat.mul_one, Nat.add_zero]
      exact hcell i (by omega)
    · have : j = 0 := by omega
      subst this
      have e : (zs.take len).getD i 0 = zs.getD i 0 := by
        simp only [List.getD_eq_getElem?_getD]
        rw [List.getElem?_take_of_lt hi]
      show DR _ _ (.int .u8 ((zs.take len).getD i 0)) _
      rw [e]
      exact .int _ _
end
end Go.Proofs.Ytbbgojaloebknaa.Vc
