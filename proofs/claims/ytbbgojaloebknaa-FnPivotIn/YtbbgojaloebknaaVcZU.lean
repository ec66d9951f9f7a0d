/- Part ZU: swings and pivots, plain. -/
import Derived.Test.YtbbgojaloebknaaVcZT
namespace Go.Proofs.Ytbbgojaloebknaa.Vc
set_option maxRecDepth 10000
set_option maxHeartbeats 4000000
def sumF (f : Nat → Int) : Nat → Int
  | 0 => 0
  | k + 1 => sumF f k + f k
def lsum (f : Nat → Int) : List Nat → Int
  | [] => 0
  | c :: l => f c + lsum f l
theorem lsum_app (f : Nat → Int) : ∀ l m : List Nat, lsum f (l ++ m) = lsum f l + lsum f m
  | [], m => by simp [lsum]
  | c :: l, m => by simp only [List.cons_append, lsum, lsum_app f l m]; omega
theorem lsum_perm (f : Nat → Int) {l m : List Nat} (h : l.Perm m) : lsum f l = lsum f m := by
  induction h with
  | nil => rfl
  | cons x _ ih => simp only [lsum, ih]
  | swap x y l => simp only [lsum]; omega
  | trans _ _ h1 h2 => exact h1.trans h2
theorem lsum_map (f : Nat → Int) (σ : Nat → Nat) : ∀ l : List Nat, lsum f (l.map σ) = lsum (fun c => f (σ c)) l
  | [] => rfl
  | c :: l => by simp only [List.map_cons, lsum, lsum_map f σ l]
theorem sumF_range (f : Nat → Int) : ∀ n, sumF f n = lsum f (List.range n)
  | 0 => rfl
  | n + 1 => by rw [sumF, List.range_succ, lsum_app, sumF_range f n]; simp [lsum]
theorem sumF_perm {σ : Nat → Nat} {n : Nat} (h : ((List.range n).map σ).isPerm (List.range n) = true) (f : Nat → Int) : sumF (fun c => f (σ c)) n = sumF f n := by
  rw [sumF_range, sumF_range, ← lsum_map, lsum_perm f (List.isPerm_iff.1 h)]
theorem sumF_eq {f g : Nat → Int} : ∀ {n : Nat}, (∀ c, c < n → f c = g c) → sumF f n = sumF g n
  | 0, _ => rfl
  | n + 1, h => by rw [sumF, sumF, sumF_eq fun c hc => h c (by omega), h n (by omega)]
theorem sumF_le {f g : Nat → Int} : ∀ {n : Nat}, (∀ c, c < n → f c ≤ g c) → sumF f n ≤ sumF g n
  | 0, _ => Int.le_refl _
  | n + 1, h => by
    have := sumF_le (f := f) (g := g) (n := n) fun c hc => h c (by omega)
    have := h n (by omega)
    simp only [sumF]; omega
theorem sumF_add (f g : Nat → Int) : ∀ n, sumF (fun c => f c + g c) n = sumF f n + sumF g n
  | 0 => rfl
  | n + 1 => by simp only [sumF, sumF_add f g n]; omega
theorem sumF_zero : ∀ n, sumF (fun _ => 0) n = 0
  | 0 => rfl
  | n + 1 => by simp only [sumF, sumF_zero n]; omega
theorem sumF_swap (f : Nat → Nat → Int) (n : Nat) : ∀ m, sumF (fun w => sumF (fun c => f w c) n) m = sumF (fun c => sumF (fun w => f w c) m) n
  | 0 => (sumF_zero n).symm
  | m + 1 => by simp only [sumF, sumF_swap f n m, sumF_add]
theorem sumF_mul (a : Int) (f : Nat → Int) : ∀ n, sumF (fun c => a * f c) n = a * sumF f n
  | 0 => by simp [sumF]
  | n + 1 => by simp only [sumF, sumF_mul a f n, Int.mul_add]
theorem sumF_delta (k : Nat) (a : Int) : ∀ n, sumF (fun c => if c = k then a else 0) n = if k < n then a else 0
  | 0 => by simp [sumF]
  | n + 1 => by
    simp only [sumF, sumF_delta k a n]
    by_cases h1 : k < n
    · rw [if_pos h1, if_neg (by omega), if_pos (by omega)]; omega
    · by_cases h2 : n = k
      · rw [if_neg h1, if_pos h2, if_pos (by omega)]; omega
      · rw [if_neg h1, if_neg h2, if_neg (by omega)]; omega

theorem swl_len (bs : List Int) (t : List Mark) (w : Int) : ∀ k, ((swl bs t w k).length : Int) = sumF (fun c => if swing bs t c w then 1 else 0) k
  | 0 => rfl
  | k + 1 => by
    have := swl_len bs t w k
    rw [swl, sumF]
    split
    · rw [List.length_append, ← this]; simp
    · rw [← this]; omega
theorem swl_sum (p : Int) (bs : List Int) (t : List Mark) (w : Int) : ∀ k, sumO p (swl bs t w k) = sumF (fun c => if swing bs t c w then ord p c else 0) k
  | 0 => rfl
  | k + 1 => by
    have := swl_sum p bs t w k
    rw [swl, sumF]
    split
    · rw [sumO_app, ← this]; simp [sumO]
    · rw [← this]; omega

/-! ### Crowds, as numbers -/
def compC (p w c : Nat) : Nat := if has (c : Int) (w : Int) then c else 2 ^ p - 1 - 2 ^ w - c
def flipC (w c : Nat) : Nat := c ^^^ 2 ^ w
def swapC (a b c : Nat) : Nat := if has (c : Int) (a : Int) = has (c : Int) (b : Int) then c else (c ^^^ 2 ^ a) ^^^ 2 ^ b
theorem perm_comp : ∀ p, p < 7 → ∀ w, w < p → ((List.range (2 ^ p)).map (compC p w)).isPerm (List.range (2 ^ p)) = true := by decide +kernel
theorem perm_flip : ∀ p, p < 7 → ∀ w, w < p → ((List.range (2 ^ p)).map (flipC w)).isPerm (List.range (2 ^ p)) = true := by decide +kernel
theorem perm_swap : ∀ p, p < 7 → ∀ a, a < p → ∀ b, b < p → ((List.range (2 ^ p)).map (swapC a b)).isPerm (List.range (2 ^ p)) = true := by decide +kernel
theorem add_in : ∀ p, p < 7 → ∀ w, w < p → ∀ c, c < 2 ^ p → 0 ≤ add (c : Nat) (w : Nat) ∧ add (c : Nat) (w : Nat) < (2 ^ p : Nat) := by decide +kernel
def compB (p w c : Nat) : Bool := has (c : Int) (w : Int) || (decide (compC p w c < 2 ^ p) && (!has (compC p w c : Nat) (w : Nat)) && decide (add (compC p w c : Nat) (w : Nat) = ((2 ^ p - 1 - c : Nat) : Int)) && decide (((2 ^ p - 1 : Nat) : Int) - add (c : Nat) (w : Nat) = (compC p w c : Nat)))
theorem comp_ok : ∀ p, p < 7 → ∀ w, w < p → ∀ c, c < 2 ^ p → compB p w c = true := by decide +kernel
theorem comp_facts (p : Nat) (hp : p < 7) (w : Nat) (hw : w < p) (c : Nat) (hc : c < 2 ^ p) (h : has (c : Nat) (w : Nat) = false) : compC p w c < 2 ^ p ∧ has (compC p w c : Nat) (w : Nat) = false ∧ add (compC p w c : Nat) (w : Nat) = ((2 ^ p - 1 - c : Nat) : Int) ∧
    ((2 ^ p - 1 : Nat) : Int) - add (c : Nat) (w : Nat) = (compC p w c : Nat) := by
  have := comp_ok p hp w hw c hc
  unfold compB at this
  rw [h] at this
  simpa [and_assoc] using this
theorem comp_ord : ∀ p, p < 7 → ∀ w, w < p → ∀ c, c < 2 ^ p → has (c : Nat) (w : Nat) = false → ord (p : Nat) (compC p w c : Nat) = ord (p : Nat) (c : Nat) := by decide +kernel
theorem half_facts : ∀ p, p < 7 → ∀ w, w < p → sumF (fun c => if has (c : Nat) (w : Nat) then 0 else 1) (2 ^ p) = ((2 ^ (p - 1) : Nat) : Int) := by decide +kernel
theorem flip_facts : ∀ p, p < 7 → ∀ w, w < p → ∀ c, c < 2 ^ p → has (flipC w c : Nat) (w : Nat) = (!has (c : Nat) (w : Nat)) ∧ (has (c : Nat) (w : Nat) = true → add (flipC w c : Nat) (w : Nat) = (c : Nat)) := by decide +kernel
def kap (p w c : Nat) : Int := if has (c : Int) (w : Int) then ord (p : Int) (flipC w c : Nat) else -ord (p : Int) (c : Nat)
theorem kap_sum : ∀ p, p < 7 → 0 < p → ∀ c, c < 2 ^ p → sumF (fun w => kap p w c) p = if c = 2 ^ p - 1 then fac p else if c = 0 then -fac p else 0 := by decide +kernel
def swapB (p a b c : Nat) : Bool := has (c : Int) (b : Int) || ((!has (swapC a b c : Nat) (a : Nat)) && decide (swapC a b c < 2 ^ p) && (bif has (c : Int) (a : Int) then
    decide (flipC a c < 2 ^ p) && (!has (flipC a c : Nat) (a : Nat)) && (!has (flipC a c : Nat) (b : Nat)) && decide (add (flipC a c : Nat) (a : Nat) = (c : Nat)) && decide (add (flipC a c : Nat) (b : Nat) = (swapC a b c : Nat)) && decide (add (swapC a b c : Nat) (a : Nat) = add (c : Nat) (b : Nat)) else decide (swapC a b c = c)))
theorem swap_ok : ∀ p, p < 7 → ∀ a, a < p → ∀ b, b < p → a ≠ b → ∀ c, c < 2 ^ p → swapB p a b c = true := by decide +kernel
theorem swap_facts (p : Nat) (hp : p < 7) (a : Nat) (ha : a < p) (b : Nat) (hb : b < p) (hab : a ≠ b) (c : Nat) (hc : c < 2 ^ p) (h : has (c : Nat) (b : Nat) = false) : has (swapC a b c : Nat) (a : Nat) = false ∧ swapC a b c < 2 ^ p ∧
    (has (c : Nat) (a : Nat) = false → swapC a b c = c) ∧ (has (c : Nat) (a : Nat) = true → flipC a c < 2 ^ p ∧ has (flipC a c : Nat) (a : Nat) = false ∧ has (flipC a c : Nat) (b : Nat) = false ∧ add (flipC a c : Nat) (a : Nat) = (c : Nat) ∧ add (flipC a c : Nat) (b : Nat) = (swapC a b c : Nat) ∧
      add (swapC a b c : Nat) (a : Nat) = add (c : Nat) (b : Nat)) := by
  have := swap_ok p hp a ha b hb hab c hc
  unfold swapB at this
  rw [h] at this
  cases hca : has (c : Int) (a : Int) with
  | true => rw [hca] at this; simpa [and_assoc, hca] using this
  | false => rw [hca] at this; simpa [and_assoc, hca] using this
theorem swap_heads : ∀ a, a < 6 → ∀ b, b < 6 → ∀ c, c < 64 → heads (swapC a b c) = heads c := by decide +kernel
def bothC (p a b c : Nat) : Nat := 2 ^ p - 1 - (c ^^^ 2 ^ a ^^^ 2 ^ b)
def bothB (p a b c : Nat) : Bool := has (c : Int) (a : Int) || has (c : Int) (b : Int) || (decide (bothC p a b c < 2 ^ p) && (!has (bothC p a b c : Nat) (a : Nat)) && (!has (bothC p a b c : Nat) (b : Nat)) &&
    decide (((2 ^ p - 1 : Nat) : Int) - add (c : Nat) (b : Nat) = add (bothC p a b c : Nat) (a : Nat)) && decide (((2 ^ p - 1 : Nat) : Int) - add (c : Nat) (a : Nat) = add (bothC p a b c : Nat) (b : Nat)))
theorem both_ok : ∀ p, p < 7 → ∀ a, a < p → ∀ b, b < p → a ≠ b → ∀ c, c < 2 ^ p → bothB p a b c = true := by decide +kernel
theorem both_facts (p : Nat) (hp : p < 7) (a : Nat) (ha : a < p) (b : Nat) (hb : b < p) (hab : a ≠ b) (c : Nat) (hc : c < 2 ^ p) (h : has (c : Nat) (a : Nat) = false) (h' : has (c : Nat) (b : Nat) = false) : bothC p a b c < 2 ^ p ∧ has (bothC p a b c : Nat) (a : Nat) = false ∧ has (bothC p a b c : Nat) (b : Nat) = false ∧
    ((2 ^ p - 1 : Nat) : Int) - add (c : Nat) (b : Nat) = add (bothC p a b c : Nat) (a : Nat) ∧ ((2 ^ p - 1 : Nat) : Int) - add (c : Nat) (a : Nat) = add (bothC p a b c : Nat) (b : Nat) := by
  have := both_ok p hp a ha b hb hab c hc
  unfold bothB at this
  rw [h, h'] at this
  simpa [and_assoc] using this
end Go.Proofs.Ytbbgojaloebknaa.Vc
