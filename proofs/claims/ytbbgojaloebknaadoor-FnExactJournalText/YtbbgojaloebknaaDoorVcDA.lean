/- Part DA: deeds and their texts. -/
import Derived.Test.YtbbgojaloebknaaDoorVcW0
namespace Go.Proofs.YtbbgojaloebknaaDoor.Vc
open Go.Proofs
def C35 : List AV → (AV → Prop) → Prop := con (X := Int × Int × Int) (fun x => [.int .i64 x.1, .int .i64 x.2.1, .int .i64 x.2.2]) (fun _ => True) fun x K => K (.bool (decide (x.2.1 ≤ x.1 ∧ x.1 ≤ x.2.2)))
theorem F35 : FF 14 C35 := by
  refine fitE [] (by simp) Tryd.f14 ⟨rfl, by decide +kernel, by decide +kernel⟩ (fun _ _ _ hk h => hk _ h) ?_
  rintro ⟨n, l, u⟩ K _ h
  refine ⟨Nat.le_of_ble_eq_true rfl, ?_⟩
  dsimp only at h ⊢
  repeat' ((conv => whnf); first | refine vA ?_ | with_reducible first | refine v8 ?_ | refine Sp.mk ?_ ?_ | refine vS ?_ | refine vR ?_ | refine vB ?_ | refine br_nt ?_ | refine br_tt ?_ | refine br_ff ?_ | refine vP ?_ | refine vQ ?_ | refine vT ?_ | refine vF ?_ | refine br_and ?_ | refine br_or ?_ | refine br_d (fun _ => ?_) fun _ => ?_ | refine vM (fun _ => ?_) fun _ => ?_)
  all_goals
    first | exact yesD h (by omega) | exact yesT h (by omega) | exact yesF h (by omega) | exact yesN h (by omega)
/-! ### l1Number -/
theorem num_small {n : Int} (h0 : 0 ≤ n) (h : n < 10) : num n = ⟨#[UInt8.ofNat (48 + n.toNat)]⟩ := by
  unfold num
  rw [Lib.decDigits, dif_pos (by omega)]
theorem num_big {n : Int} (h : ¬ n < 10) : num n = num (n / 10) ++ ⟨#[UInt8.ofNat (48 + n.toNat % 10)]⟩ := by
  unfold num
  rw [Lib.decDigits, dif_neg (by omega), show (n / 10).toNat = n.toNat / 10 by omega]
  simp [ByteArray.ext_iff]
theorem num_size {n : Int} (h0 : 0 ≤ n) (h : n < 100) : (num n).size ≤ 2 := by
  have hk : ∀ k, k < 100 → (Lib.decDigits k).length ≤ 2 := by decide +kernel
  have := hk n.toNat (by omega)
  show (Lib.decDigits n.toNat).toArray.size ≤ 2
  simpa using this
theorem dec_len (u : Nat) : (Lib.decDigits u).length ≤ u + 1 := by
  induction u using Nat.strongRecOn with
  | _ u ih =>
    rw [Lib.decDigits]
    split
    · simp
    · have := ih (u / 10) (by omega)
      simp only [List.length_append, List.length_cons, List.length_nil]
      omega
theorem num_le (n : Int) : (num n).size ≤ n.toNat + 1 := by
  have := dec_len n.toNat
  show (Lib.decDigits n.toNat).toArray.size ≤ _
  simpa using this
theorem str1 (x : Int) (d : List AV) : (strOf 1 fun i => (fun i => [[AV.int IntKind.u8 x]].getD i d) (0 + i)) = ⟨#[UInt8.ofNat x.toNat]⟩ := rfl
def C106k (k : Nat) : List AV → (AV → Prop) → Prop := con (X := Int) (fun n => [.int .i64 n]) (fun n => n.toNat < k ∧ 0 ≤ n ∧ n ≤ 9223372036854775807) fun n K => K (.str (num n))
theorem F106k : ∀ k, FF 15 (C106k k) := by
  intro k
  induction k with
  | zero => exact fitE [] (by simp) Tryd.f15 ⟨rfl, by decide +kernel, by decide +kernel⟩ (fun _ _ _ hk h => hk _ h) fun x K h => absurd h.1 (Nat.not_lt_zero _)
  | succ k ih =>
    refine fitE [(15, C106k k)] (by simp only [List.mem_cons, List.not_mem_nil, or_false]; rintro _ rfl; exact ih) Tryd.f15 ⟨rfl, by decide +kernel, by decide +kernel⟩ (fun _ _ _ hk h => hk _ h) ?_
    intro n K ⟨h0, h1, h2⟩ h
    refine ⟨Nat.le_of_ble_eq_true rfl, ?_⟩
    repeat' ((conv => whnf); first | refine vA ?_ | with_reducible first | refine v8 ?_ | refine Sp.mk ?_ ?_ | refine vS ?_ | refine vR ?_ | refine vB ?_ | refine br_nt ?_ | refine br_tt ?_ | refine br_ff ?_ | refine vP ?_ | refine vQ ?_ | refine vT ?_ | refine vF ?_ | refine br_and ?_ | refine br_or ?_ | refine br_d (fun _ => ?_) fun _ => ?_ | refine vM (fun _ => ?_) fun _ => ?_)
    · (conv => whnf)
      rw [if_neg (by omega : ¬ 0 > n)]
      repeat' ((conv => whnf); first | refine ⟨Chk.mk ⟨by decide, by decide, fun i hi => by obtain rfl : i = 0 := by omega; exact ⟨_, rfl⟩⟩, ?_⟩ | refine vA ?_ | with_reducible first | refine v8 ?_ | refine Sp.mk ?_ ?_ | refine vS ?_ | refine vR ?_ | refine vB ?_ | refine br_nt ?_ | refine br_tt ?_ | refine br_ff ?_ | refine vP ?_ | refine vQ ?_ | refine vT ?_ | refine vF ?_ | refine br_and ?_ | refine br_or ?_ | refine br_d (fun _ => ?_) fun _ => ?_ | refine vM (fun _ => ?_) fun _ => ?_)
      rw [str1, show (48 + n).toNat = 48 + n.toNat by omega, ← num_small h1 (by omega)]
      exact h
    · refine Dr.mk ⟨(.rd 0 (.rd 1 (.rd 3 (.rd 4 (.rd 5 (.rd 6 (.ef 2 (.ef 7 (.rd 8 (.rd 9 (.rd 10 .dn))) .no) (.ef 7 (.rd 8 (.ef 2 (.rd 9 (.rd 10 .dn)) .no)) .no)))))))), by decide +kernel, ?_⟩
      repeat' ((conv => whnf); first | refine vA ?_ | with_reducible first | refine v8 ?_ | refine Sp.mk ?_ ?_ | refine vS ?_ | refine vR ?_ | refine vB ?_ | refine br_nt ?_ | refine br_tt ?_ | refine br_ff ?_ | refine vP ?_ | refine vQ ?_ | refine vT ?_ | refine vF ?_ | refine br_and ?_ | refine br_or ?_ | refine br_d (fun _ => ?_) fun _ => ?_ | refine vM (fun _ => ?_) fun _ => ?_)
      (conv => whnf)
      rw [Int.tdiv_eq_ediv_of_nonneg h1]
      repeat' ((conv => whnf); first | refine vA ?_ | with_reducible first | refine v8 ?_ | refine Sp.mk ?_ ?_ | refine vS ?_ | refine vR ?_ | refine vB ?_ | refine br_nt ?_ | refine br_tt ?_ | refine br_ff ?_ | refine vP ?_ | refine vQ ?_ | refine vT ?_ | refine vF ?_ | refine br_and ?_ | refine br_or ?_ | refine br_d (fun _ => ?_) fun _ => ?_ | refine vM (fun _ => ?_) fun _ => ?_)
      (conv => whnf)
      rw [Int.tmod_eq_emod_of_nonneg h1]
      repeat' ((conv => whnf); first | refine ⟨Chk.mk ⟨by decide, by decide, fun i hi => by obtain rfl : i = 0 := by omega; exact ⟨_, rfl⟩⟩, ?_⟩ | refine vA ?_ | with_reducible first | refine v8 ?_ | refine Sp.mk ?_ ?_ | refine vS ?_ | refine vR ?_ | refine vB ?_ | refine br_nt ?_ | refine br_tt ?_ | refine br_ff ?_ | refine vP ?_ | refine vQ ?_ | refine vT ?_ | refine vF ?_ | refine br_and ?_ | refine br_or ?_ | refine br_d (fun _ => ?_) fun _ => ?_ | refine vM (fun _ => ?_) fun _ => ?_)
      all_goals
        refine ⟨n / 10, ?_, ⟨by omega, by omega, by omega⟩, ?_⟩
        · repeat' ((conv => whnf); first | with_reducible exact True.intro | exact vW | with_reducible refine And.intro ?_ ?_)
        have hsz : (num (n / 10)).size + 1 ≤ 9223372036854775807 := by have := num_le (n / 10); omega
        repeat' ((conv => whnf); first | refine ⟨Chk.mk (by rw [str1]; exact hsz), ?_⟩ | refine ⟨Chk.mk ⟨by decide, by decide, fun i hi => by obtain rfl : i = 0 := by omega; exact ⟨_, rfl⟩⟩, ?_⟩ | refine vA ?_ | with_reducible first | refine v8 ?_ | refine Sp.mk ?_ ?_ | refine vS ?_ | refine vR ?_ | refine vB ?_ | refine br_nt ?_ | refine br_tt ?_ | refine br_ff ?_ | refine vP ?_ | refine vQ ?_ | refine vT ?_ | refine vF ?_ | refine br_and ?_ | refine br_or ?_ | refine br_d (fun _ => ?_) fun _ => ?_ | refine vM (fun _ => ?_) fun _ => ?_)
        rw [str1, show (48 + n % 10).toNat = 48 + n.toNat % 10 by omega, ← num_big (by omega)]
        exact h
def C106 : List AV → (AV → Prop) → Prop := con (X := Int) (fun n => [.int .i64 n]) (fun n => 0 ≤ n ∧ n ≤ 9223372036854775807) fun n K => K (.str (num n))
theorem F106 : FF 15 C106 := fun Gl hG => fits_rec (fun n => n.toNat) fun k => F106k k Gl hG
end Go.Proofs.YtbbgojaloebknaaDoor.Vc
