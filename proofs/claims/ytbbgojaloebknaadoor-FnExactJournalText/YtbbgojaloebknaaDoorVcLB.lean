/- Part LB: a library's proved contract as one of ours. -/
import Derived.Test.YtbbgojaloebknaaDoorVcV
import Derived.Lib.AppendIntMem
namespace Go.Proofs.YtbbgojaloebknaaDoor.Vc
open Go.RowKit Go.Lib Go.Sort
variable {P : Program} {Gl : List (Nat × Go.Obj)}
/-- Plain arguments and what they are as values. -/
def valOf : AV → Value
  | .int k n => .int k n
  | .bool b => .bool b
  | .str s => .string s
  | _ => Go.undef
def isPl : AV → Bool
  | .int _ _ => true
  | .bool _ => true
  | .str _ => true
  | _ => false
theorem getD_lt {us : List AV} {i : Nat} (hi : i < us.length) : us.getD i .undef = us[i] := by simp [hi]
theorem pv_pl {R : Nat → Prop} {w : World} {v : AV} {x : Value} (h : isPl v = true) (hp : PV R w v x) : x = valOf v := by
  cases v <;> simp [isPl] at h <;> cases hp <;> rename_i hd <;> cases hd <;> rfl
theorem pl_pv {R : Nat → Prop} {w : World} {v : AV} (h : isPl v = true) : PV R w v (valOf v) := by
  cases v <;> simp [isPl] at h <;> refine .data ?_ <;> constructor
theorem args_pl {R : Nat → Prop} {w : World} {us : List AV} {xs : Array Value} (h : us.all isPl = true) (ha : ArgsV R w us xs) : xs = (us.map valOf).toArray := by
  apply Array.ext
  · simpa using ha.1
  · intro i h1 h2
    have hi : i < us.length := by simpa using h2
    have := pv_pl (by rw [getD_lt hi]; exact List.all_eq_true.1 h _ (List.getElem_mem hi)) (ha.2 i hi)
    rw [getD_lt hi, Array.getD_eq_getD_getElem?, Array.getElem?_eq_getElem h1] at this
    simpa using this
/-- A contract of the library whose arguments and result are plain. -/
theorem fits_pl {X : Type} {args : X → List AV} {pre : X → Prop} {f : FuncId} (res : X → AV) (has : HasBody P f) (ha : ∀ x, (args x).all isPl = true) (hr : ∀ x, isPl (res x) = true)
    (ok : ∀ x, pre x → ∀ w : World, (∀ p, p ∈ Gl → w.heap[p.1]? = some p.2) → Calls P f ((args x).map valOf).toArray w fun e w' => e = .returned (valOf (res x)) ∧ ∃ B, w.heap.size ≤ B ∧ Below B w w') :
    Fits P Gl f (con args pre fun x K => K (res x)) := by
  refine ⟨has, fun us K K' hk ⟨x, h1, h2, h3⟩ => ⟨x, h1, h2, hk _ h3⟩, ?_⟩
  rintro us K ⟨x, h1, h2, h3⟩ R w xs hL hA
  obtain ⟨g1, g2⟩ := exL_PV (R := R) (w := w) us (args x) h1
  have hA' : ArgsV R w (args x) xs := ⟨hA.1.trans g1, fun j hj => g2 j (g1 ▸ hj) _ (hA.2 j (g1 ▸ hj))⟩
  obtain rfl := args_pl (ha x) hA'
  refine (ok x h2.h w fun p hp => (hL.gl p hp).2).mono fun e w' he => ?_
  obtain ⟨rfl, B, hB, hb⟩ := he
  exact ⟨res x, _, R, rfl, h3, pl_pv (hr x), ⟨fun b hb' => Nat.lt_of_lt_of_le (hL.lt b hb') hb.size, fun _ h => h, fun _ h => .inl h, hb.size, fun b hlt => hb.block b (by omega), hb.os, hb.tape, hb.output⟩⟩
theorem wu8 {x : Int} (h1 : 0 ≤ x) (h2 : x ≤ 255) : IntKind.u8.wrap x = x := by
  simp only [IntKind.wrap, IntKind.signed, IntKind.bits, Bool.false_and]
  simp only [Bool.false_eq_true, if_false]
  omega
theorem v8 {K : AV → Prop} {x : Int} (hK : K (.int .u8 x)) (h1 : 0 ≤ x := by omega) (h2 : x ≤ 255 := by omega) : Wr .u8 x K := .ex (wu8 h1 h2) hK
end Go.Proofs.YtbbgojaloebknaaDoor.Vc
