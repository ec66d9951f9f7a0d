/- Part LA: strings.IndexAny at space and newline, for every string: out of the library's own text. -/
import Derived.Shelf.Strings.IndexAnyAll
import Derived.Laws.RangeAny
import Derived.Lib.OthersKept
import Derived.Laws.Runes
import Derived.WalkMore
import Derived.Shelf.RegionOpenPlain
import Derived.Scope
import Derived.Shelf.Small.Utf8
namespace Go.Proofs.YtbbgojaloebknaaDoor.Vc
open Go.Proofs Go.Shelf Go.RowKit Go.Lib
variable {P : Program} {ρ : Ren}
/-- Space and newline. -/
def sn : ByteArray := ⟨#[32, 10]⟩
theorem decode_more (s : ByteArray) (pos : Nat) (h : pos < s.size) (ha : 128 ≤ (s[pos]'h).toNat) : pos + (Utf8.decode s pos).2 ≤ s.size ∧ ∀ j, 1 ≤ j → j < (Utf8.decode s pos).2 → 128 ≤ (s.get! (pos + j)).toNat := by
  have hn : ¬ (s[pos]'h).toNat < 128 := by omega
  simp only [Utf8.decode, get_at s pos h, hn, if_false]
  repeat' split
  all_goals simp_all
  all_goals refine ⟨by omega, fun j h1 h2 => ?_⟩
  all_goals (first | omega | (have : j = 1 ∨ j = 2 ∨ j = 3 := by omega); rcases this with rfl | rfl | rfl <;> omega)
theorem sn_at0 : sn.data.toList[0]? = some 32 := rfl
set_option maxHeartbeats 2000000 in
set_option maxRecDepth 1000000 in
theorem IndexRune_bad (L : Lays.n152 P ρ) (r : Int) (w : World) (h0 : 128 ≤ r) (h1 : ¬ r = 65533) (h2 : Lib.validRune r = false) :
    Calls P (ρ.f 152) #[.string sn, .int .i32 r] w fun e w' => e = .returned (.int .i64 (-1)) ∧ w' = w := by
  have t3 := L.t3; have a3 := L.a3; have z3 := L.z3; have v3 := L.v3
  have t4 := L.t4; have a4 := L.a4; have z4 := L.z4; have v4 := L.v4
  have t5 := L.t5; have a5 := L.a5; have z5 := L.z5; have v5 := L.v5
  have t9 := L.t9; have a9 := L.a9; have z9 := L.z9; have v9 := L.v9
  have t21 := L.t21; have a21 := L.a21; have z21 := L.z21; have v21 := L.v21
  have e119 : ∀ args w, (callFunc (ρ.f 119) args).run P w = .ok (.enter (ρ.f 119) args) w := enters_of L.f119 (by kernel_rfl) rfl
  go_enter L.f152, Body.n152_ntmps ρ
  go_wp2_with (go_at_fn (ρ.f 119); refine (Any.utf8_ValidRune { L with } _ _).mono ?_; rintro e w' ⟨rfl, hw⟩; rw [hw, h2])
  go_ret
  exact ⟨rfl, rfl⟩
set_option maxHeartbeats 4000000 in
set_option maxRecDepth 1000000 in
theorem IndexRune_good (L : Lays.n152 P ρ) (r : Int) (w : World) (h0 : 128 ≤ r) (h1 : ¬ r = 65533) (h2 : Lib.validRune r = true) (h3 : Utf8.valid r = true) :
    Calls P (ρ.f 152) #[.string sn, .int .i32 r] w fun e w' => e = .returned (.int .i64 (-1)) ∧ Below w.heap.size w w' := by
  have mixed := L.mixed
  have t3 := L.t3; have a3 := L.a3; have z3 := L.z3; have v3 := L.v3
  have t4 := L.t4; have a4 := L.a4; have z4 := L.z4; have v4 := L.v4
  have t5 := L.t5; have a5 := L.a5; have z5 := L.z5; have v5 := L.v5
  have t9 := L.t9; have a9 := L.a9; have z9 := L.z9; have v9 := L.v9
  have t21 := L.t21; have a21 := L.a21; have z21 := L.z21; have v21 := L.v21
  have e119 : ∀ args w, (callFunc (ρ.f 119) args).run P w = .ok (.enter (ρ.f 119) args) w := enters_of L.f119 (by kernel_rfl) rfl
  have e137 : ∀ args w, (callFunc (ρ.f 137) args).run P w = .ok (.enter (ρ.f 137) args) w := enters_of L.f137 (by kernel_rfl) rfl
  obtain ⟨k1, k2, k3⟩ := encode_facts r h3 h0
  obtain ⟨rs, hrs⟩ : ∃ rs, Utf8.encode r = rs := ⟨_, rfl⟩
  rw [hrs] at k1 k2
  have k4 : ∀ h : rs.size - 1 < rs.size, 128 ≤ (rs[rs.size - 1]'h).toNat := by subst hrs; exact k3
  clear k3
  have hcv : ∀ w, (convert (ρ.t 21) (ρ.t 9) (.int .i32 r)).run P w = .ok (.string rs) w := fun w => by rw [← hrs]; exact run_convert_int_string w _ _ _ _ (by simp [t21]) (by simp [t9])
  go_enter L.f152, Body.n152_ntmps ρ
  go_wp2_with (go_at_fn (ρ.f 119); refine (Any.utf8_ValidRune { L with } _ _).mono ?_; rintro e w' ⟨rfl, hw⟩; rw [hw, h2])
  apply wp_scope_straight
  go_wp2
  go_loopg [9] 0 (fun _ i wx => i = .int .i64 ((rs.size : Int) - 1) ∧ wx = w)
  case atStart => exact ⟨rfl, rfl⟩
  case round =>
    obtain ⟨rfl, rfl⟩ := hrel
    have hs : sn.size = 2 := rfl
    by_cases hk : rs.size = 2
    · have e1 : ((rs.size : Int) - 1) = 1 := by omega
      rw [e1]
      have hk1 : rs.size - 1 < rs.size := by omega
      have hb : sn[1]'(by decide) = 10 := rfl
      go_wp2
      go_step3
      go_wp2
      go_region_o
      have hne : ((10 : Int) != ((rs[1]'(by omega)).toNat : Int)) = true := by
        have := k4 hk1
        simp only [show rs.size - 1 = 1 by omega] at this
        exact bne_iff_ne.2 (by omega)
      rw [hne]
      have hneg : ∀ c, Lib.indexByte [] c = -1 := fun _ => rfl
      go_wp2
      go_region_with_o (go_at_fn (ρ.f 137); refine (Any.strings_IndexByte { L with } _ _ _).mono ?_; rintro e w' ⟨rfl, hw⟩; rw [hw])
      go_wp2
      all_goals (try (exfalso; rename_i h; simp only [hneg] at h; omega))
      all_goals (simp only [Exit.noGoto_ret]; go_wp2; simp only [Exit.noGoto_ret]; go_wp2)
      all_goals (go_ret; exact ⟨rfl, ⟨rfl, rfl, rfl, Nat.le_refl _, fun _ _ => rfl⟩⟩)
    · go_wp2
      simp only [Exit.noGoto_ret]
      go_wp2
      go_ret
      exact ⟨rfl, Below.refl _ _⟩
end Go.Proofs.YtbbgojaloebknaaDoor.Vc
