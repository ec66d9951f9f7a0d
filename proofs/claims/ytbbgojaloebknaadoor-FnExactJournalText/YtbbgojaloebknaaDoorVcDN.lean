/- Part DN: rows of a door seat: what the listed tables give; deeds opened. -/
import Derived.Test.YtbbgojaloebknaaDoorVcW0
import Derived.Test.YtbbgojaloebknaaDoorVcDB
import Derived.WalkKit
import Derived.ProofKit
import Derived.OpenShut
import Derived.ShutString
import Derived.ChangeOld
import Derived.Below
import Derived.SizedLaws
import Derived.Carry
import Derived.Deep.Strs
import Derived.Handed
import Derived.JoinedOf
import Derived.LaidSub
import Derived.Lay
import Derived.Lib.LaidTab
import Derived.Lib.SmallJoins
import Derived.SevenTiedAt
import Derived.Test.YtbbgojaloebknaaDoorRows
import Derived.Test.YtbbgojaloebknaaDoorCards
import Derived.Test.YtbbgojaloebknaaDoorTie
namespace Go.Proofs.YtbbgojaloebknaaDoor.Vc
open Go.Proofs Go.ChangeShapes Go.WideShapes Go.ChangeAt Go.RowKit Go.Proofs.YtbbgojaloebknaaDoor
theorem own : ownKnob Tryd.prog.godebug = none := by kernel_rfl
theorem laidOut : laidOutB Tryd.prog = true := by kernel_rfl
theorem i64_wf {n : Int} (h : (Lit.int .i64 n).wf = true) : i64r n := by
  simp only [Lit.wf, Bool.and_eq_true, decide_eq_true_eq] at h
  exact h
def Rw0 (w : World) : Nat → Prop := fun b => b < w.heap.size
/-- A contract, as a call of ours that leaves all that was there. -/
theorem FF.below {f : FuncId} {C : List AV → (AV → Prop) → Prop} (hF : FF f C) {us : List AV} {b : Bool} (h : C us fun r => r = .bool b) {w : World} (hw : Good w) {xs : Array Value} (ha : ArgsV (Rw0 w) w us xs) :
    Calls Tryd.prog f xs w fun e w' => e = .returned (.bool b) ∧ Below w.heap.size w w' := by
  obtain ⟨g, ob, hg, ho⟩ : ∃ g ob, Tryd.prog.globalNamed "internal/strconv.uint64pow10" = some g ∧ w.heap[g]? = some ob := by
    unfold Good Lib.TabIs World.var? at hw
    cases hg : Tryd.prog.globalNamed "internal/strconv.uint64pow10" with
    | none => rw [hg] at hw; cases hw
    | some g =>
      rw [hg] at hw
      cases ho : w.heap[g]? with
      | none => simp [ho] at hw
      | some ob => exact ⟨g, ob, rfl, ho⟩
  have hG : GOk [(g, ob)] := fun w' h' => by
    have h1 := h' _ List.mem_cons_self
    unfold Good Lib.TabIs World.var? at hw ⊢
    rw [hg] at hw ⊢
    simp only [Option.bind_some] at hw ⊢
    rw [show w'.heap[g]? = w.heap[g]? from h1.trans ho.symm]
    exact hw
  have hb : ∀ p, p ∈ [(g, ob)] → w.heap[p.1]? = some p.2 := fun p hp => by
    obtain rfl := List.mem_singleton.1 hp
    exact ho
  exact ((hF _ hG).ok us _ h (Rw0 w) w xs ⟨fun _ h => h, fun p hp => ⟨(Array.getElem?_eq_some_iff.1 (hb p hp)).1, hb p hp⟩⟩ ha).mono fun e w' he => by
    obtain ⟨r, x, R', rfl, rfl, hv, hA⟩ := he
    cases hv with
    | data hd => cases hd; exact ⟨rfl, hA.os, hA.tape, hA.output, hA.size, hA.same⟩
section
variable {H : Type} {enc : TypeId × Value → H} {P : Program} {w : World} {spare : Nat → Bool} {held : Bool} {R : Nat → Prop}
theorem op_int {t : TypeId} {v : Value} {d : DataW H} {ps : List MemPlace} {r : Reach} {b0 : Nat} (ht : P.underlying t = some (.int .i64)) (hv : Value.okWide P w r b0 t v) (h : DataW.Trod enc P w 0 spare held t v d ps) : ∃ n : Int, v = .int .i64 n ∧ i64r n := by
  obtain ⟨n, rfl⟩ := okWide_int ht hv
  obtain ⟨fuel, hf⟩ := h
  obtain ⟨m, e1, _, w0⟩ := DataW.trod_int ht hf
  have e2 : (Value.int .i64 n).cells.toList = [.int .i64 n] := rfl
  rw [e2] at e1
  cases e1
  exact ⟨n, rfl, i64_wf w0⟩
def Dd.i64 (d : Dd) : Prop := i64r d.kind ∧ i64r d.a ∧ i64r d.b ∧ d.words.size < 9223372036854775808
theorem op_deed {t : TypeId} {f0 f1 f2 f3 : Field} {v : Value} {d : DataW H} {ps : List MemPlace} {r : Reach} {b0 : Nat} (ht : P.underlying t = some (.struct #[f0, f1, f2, f3])) (ce : P.cellsOf t = 4) (o0 : f0.offset = 0) (o1 : f1.offset = 1) (o2 : f2.offset = 2) (o3 : f3.offset = 3)
    (k0 : P.underlying f0.type = some (.int .i64)) (k1 : P.underlying f1.type = some (.int .i64)) (k2 : P.underlying f2.type = some (.int .i64)) (k3 : P.underlying f3.type = some .string)
    (c0 : P.cellsOf f0.type = 1) (c1 : P.cellsOf f1.type = 1) (c2 : P.cellsOf f2.type = 1) (c3 : P.cellsOf f3.type = 1)
    (hv : Value.okWide P w r b0 t v) (h : DataW.Trod enc P w 0 spare held t v d ps) : ∃ h : Dd, PV (Rw0 w) w (ded h) v ∧ h.i64 := by
  obtain ⟨cs, rfl, hcs⟩ := okWide_struct ht hv
  obtain ⟨fuel, hf⟩ := h
  obtain ⟨y0, y1, y2, y3, n, _, hl, g0, g1, g2, g3⟩ := Go.Joins.trod_struct4 ht hf
  have e0 : (Value.agg cs).cells.toList = cs.toList := rfl
  rw [e0] at g0 g1 g2 g3 hl
  rw [ce] at hl
  obtain ⟨cs⟩ := cs
  match cs, hl with
  | [v0, v1, v2, v3], _ =>
    simp [o0, o1, o2, o3, c0, c1, c2, c3] at g0 g1 g2 g3
    obtain ⟨k, e1, _, w0⟩ := DataW.trod_int k0 g0
    obtain ⟨a, e2, _, w1⟩ := DataW.trod_int k1 g1
    obtain ⟨b, e3, _, w2⟩ := DataW.trod_int k2 g2
    obtain ⟨s, e4, _, w3⟩ := DataW.trod_string k3 g3
    simp only [List.cons.injEq, and_true] at e1 e2 e3 e4
    subst e1; subst e2; subst e3; subst e4
    have : maxLen = 9223372036854775807 := rfl
    refine ⟨⟨k, a, b, s⟩, .agg _ _ rfl fun j hj => ?_, i64_wf w0, i64_wf w1, i64_wf w2, by show s.size < _; omega⟩
    match j, hj with
    | 0, _ => exact .data (.int _ _)
    | 1, _ => exact .data (.int _ _)
    | 2, _ => exact .data (.int _ _)
    | 3, _ => exact .data (.str _)
end
end Go.Proofs.YtbbgojaloebknaaDoor.Vc
