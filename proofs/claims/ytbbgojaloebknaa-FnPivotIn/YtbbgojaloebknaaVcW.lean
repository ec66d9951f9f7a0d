/- Part W: what is known of the program; its small functions. -/
import Derived.Test.YtbbgojaloebknaaVcV
import Derived.Test.YtbbgojaloebknaaProg
namespace Go.Proofs.Ytbbgojaloebknaa.Vc
open Go.Proofs
def TT : List (TypeId × TI) :=
  [(3, ⟨1, .int .i64, [.int .i64 0], 8, false⟩),
   (4, ⟨1, .bool, [.bool false], 1, false⟩),
   (22, ⟨1, .slice 3, [.nils], 24, false⟩),
   (31, ⟨1, .slice 57, [.nils], 24, false⟩),
   (57, ⟨3, .struct [(0, 3), (1, 3), (2, 3)], [.int .i64 0, .int .i64 0, .int .i64 0], 24, true⟩),
   (29, ⟨2, .struct [(0, 3), (1, 22)], [.int .i64 0, .nils], 32, false⟩),
   (59, ⟨3, .struct [(0, 3), (1, 3), (2, 3)], [.int .i64 0, .int .i64 0, .int .i64 0], 24, true⟩),
   (25, ⟨1, .slice 59, [.nils], 24, false⟩),
   (24, ⟨2, .struct [(0, 3), (1, 22)], [.int .i64 0, .nils], 32, false⟩),
   (38, ⟨1, .slice 5, [.nils], 24, false⟩),
   (5, ⟨1, .int .u8, [.int .u8 0], 1, false⟩),
   (62, ⟨1, .ptr, [.nilp], 8, false⟩),
   (76, ⟨1, .int .u64, [.int .u64 0], 8, false⟩),
   (80, ⟨1, .int .u32, [.int .u32 0], 4, false⟩),
   (82, ⟨1, .int .u64, [.int .u64 0], 8, false⟩),
   (74, ⟨2, .struct [(0, 38), (1, 3)], [.nils, .int .i64 0], 32, false⟩),
   (72, ⟨1, .slice 4, [.nils], 24, false⟩),
   (83, ⟨1, .slice 31, [.nils], 24, false⟩)]
theorem tOk : TOk Try.prog (lookT TT) := TOk.of (by decide +kernel)
theorem mixed : Try.prog.follows .mixedOrders = true := by decide +kernel
structure Mark where
  kind : Int
  at_ : Int
  need : Int
  deriving Inhabited, DecidableEq
def encI (n : Int) : List AV := [.int .i64 n]
def encM (m : Mark) : List AV := [.int .i64 m.kind, .int .i64 m.at_, .int .i64 m.need]
abbrev slI (l : List Int) : AV := .sl 1 l.length fun i => encI (l.getD i 0)
abbrev slM (t : List Mark) : AV := .sl 3 t.length fun i => encM (t.getD i default)
abbrev house (p : Int) (bs : List Int) : AV := .agg [.int .i64 p, slI bs]
set_option maxRecDepth 10000
abbrev FF (f : FuncId) (C : List AV → (AV → Prop) → Prop) : Prop := Fits Try.prog [] f C

/-! ### szIntS, szMarkS -/
def C34 : List AV → (AV → Prop) → Prop := con (X := List Int × Int) (fun x => [slI x.1, .int .i64 x.2]) (fun x => x.1.length < 9223372036854775808 ∧ 0 ≤ x.2 ∧ x.2 ≤ 9223372036854775807) fun x K => K (.int .i64 (if x.2 - x.1.length < 0 then -1 else x.2 - x.1.length))
theorem F34 : FF 34 C34 := by
  refine fits tOk (callE_ok (E := []) (by simp)) mixed (fn := Try.f34) ⟨rfl, by decide +kernel, by decide +kernel⟩ (fun _ _ _ hk h => hk _ h) ?_
  rintro ⟨l, n⟩ K ⟨h1, h2, h3⟩ h
  refine ⟨Nat.le_of_ble_eq_true rfl, ?_⟩
  dsimp only at h1 h2 h3 h ⊢
  repeat' ((conv => whnf); first | refine vA ?_ | with_reducible first | refine vS ?_ | refine vR ?_ | refine vB ?_ | refine br_nt ?_ | refine br_tt ?_ | refine br_ff ?_ | refine vP ?_ | refine vQ ?_ | refine vT ?_ | refine vF ?_ | refine br_and ?_ | refine br_or ?_ | refine br_d (fun _ => ?_) fun _ => ?_ | refine vM (fun _ => ?_) fun _ => ?_)
  · rw [if_pos (by omega)] at h
    exact h
  · rw [if_neg (by omega)] at h
    exact h
end Go.Proofs.Ytbbgojaloebknaa.Vc
