/- Part LA2. -/
import Derived.Test.YtbbgojaloebknaaDoorVcLA
namespace Go.Proofs.YtbbgojaloebknaaDoor.Vc
open Go.Proofs Go.Shelf Go.RowKit Go.Lib
variable {P : Program} {ρ : Ren}
theorem below_iter (w : World) (s : ByteArray) (p : Nat) : Below w.heap.size w (w.iter s p) := by
  refine ⟨rfl, rfl, rfl, ?_, fun k hk => ?_⟩
  · show w.heap.size ≤ (w.heap.push _).size
    rw [Array.size_push]; omega
  · show (w.heap.push (Obj.stringIter s p))[k]? = _
    rw [Array.getElem?_push, if_neg (by omega)]
set_option maxHeartbeats 4000000 in
set_option maxRecDepth 1000000 in
theorem IndexRune_fffd (L : Lays.n152 P ρ) (w : World) :
    Calls P (ρ.f 152) #[.string sn, .int .i32 65533] w fun e w' => e = .returned (.int .i64 (-1)) ∧ Below w.heap.size w w' := by
  have t3 := L.t3; have a3 := L.a3; have z3 := L.z3; have v3 := L.v3
  have t4 := L.t4; have a4 := L.a4; have z4 := L.z4; have v4 := L.v4
  have t5 := L.t5; have a5 := L.a5; have z5 := L.z5; have v5 := L.v5
  have t9 := L.t9; have a9 := L.a9; have z9 := L.z9; have v9 := L.v9
  have t21 := L.t21; have a21 := L.a21; have z21 := L.z21; have v21 := L.v21
  go_enter L.f152, Body.n152_ntmps ρ
  go_wp2
  go_loopg [5] 2 (fun g _ wx => ∃ i : Nat, i + g = 2 ∧ wx = w.iter sn i)
  case atStart => exact ⟨0, rfl, rfl⟩
  case round =>
    obtain ⟨i, hig, rfl⟩ := hrel
    cases gk with
    | zero =>
      obtain rfl : i = 2 := by omega
      have hnx := fun ty => run_next_end (P := P) w sn 2 ty (by decide)
      go_wp2
      go_ret
      exact ⟨rfl, below_iter _ _ _⟩
    | succ g =>
      have hx : (sn[i]!).toNat < 128 := by
        have : i = 0 ∨ i = 1 := by omega
        rcases this with rfl | rfl <;> decide
      have hi : i < sn.size := by show i < 2; omega
      have hnx := fun ty => run_next_ascii (P := P) w sn i ty hi (by rw [getElem!_pos sn i hi] at hx; exact hx)
      rw [getElem!_pos sn i hi] at hx
      generalize sn[i] = x at hx hnx
      go_wp2
      go_roundg g
      case measure => omega
      case rel => exact ⟨i + 1, by omega, rfl⟩
theorem IndexRune_high (L : Lays.n152 P ρ) (r : Int) (w : World) (h0 : 128 ≤ r) :
    Calls P (ρ.f 152) #[.string sn, .int .i32 r] w fun e w' => e = .returned (.int .i64 (-1)) ∧ Below w.heap.size w w' := by
  by_cases h1 : r = 65533
  · subst h1; exact IndexRune_fffd L w
  · cases h2 : Lib.validRune r with
    | false => exact (IndexRune_bad L r w h0 h1 h2).mono fun e w' ⟨h, hw⟩ => ⟨h, hw ▸ Below.refl _ _⟩
    | true =>
      refine IndexRune_good L r w h0 h1 h2 ?_
      simp only [Lib.validRune, Utf8.valid, decide_eq_true_eq, Bool.or_eq_true, Bool.and_eq_true] at h2 ⊢
      omega
end Go.Proofs.YtbbgojaloebknaaDoor.Vc
