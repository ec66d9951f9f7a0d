/- Part ZJ: swings. -/
import Derived.Test.YtbbgojaloebknaaVcZF
namespace Go.Proofs.Ytbbgojaloebknaa.Vc
open Go.Proofs
set_option maxRecDepth 10000
set_option maxHeartbeats 4000000
/-- With that person the crowd consents, without it does not. -/
def swing (bs : List Int) (t : List Mark) (c w : Int) : Bool := !has c w && !says bs c t && says bs (add c w) t
structure Sw where
  p : Int
  bs : List Int
  t : List Mark
  c : Int
  w : Int
def swOk (x : Sw) : Prop := sayOk ⟨x.p, x.bs, x.t, x.c⟩ ∧ x.t.length ≤ 9 ∧ 0 ≤ x.w ∧ x.w < 6
theorem tmod_has {c w : Int} (h1 : 0 ≤ c) (h2 : c < 64) (h3 : 0 ≤ w) (h4 : w < 6) : (shrv .i64 c w).tmod 2 = 0 ↔ has c w = false := by
  have key : ∀ c, c < 64 → ∀ w, w < 6 → ((shrv .i64 (c : Nat) (w : Nat)).tmod 2 = 0 ↔ ¬ (shrv .i64 (c : Nat) (w : Nat)).tmod 2 = 1) := by decide +kernel
  have := key c.toNat (by omega) w.toNat (by omega)
  rw [Int.toNat_of_nonneg h1, Int.toNat_of_nonneg h3] at this
  unfold has
  rw [decide_eq_false_iff_not]
  exact this
theorem and0_has {c w : Int} (h1 : 0 ≤ c) (h2 : c < 64) (h3 : 0 ≤ w) (h4 : w < 6) : bitop .i64 .and (shrv .i64 c w) 1 = 0 ↔ has c w = false := by
  have key : ∀ c, c < 64 → ∀ w, w < 6 → (bitop .i64 .and (shrv .i64 (c : Nat) (w : Nat)) 1 = 0 ↔ ¬ (shrv .i64 (c : Nat) (w : Nat)).tmod 2 = 1) := by decide +kernel
  have := key c.toNat (by omega) w.toNat (by omega)
  rw [Int.toNat_of_nonneg h1, Int.toNat_of_nonneg h3] at this
  unfold has
  rw [decide_eq_false_iff_not]
  exact this
def C44 : List AV → (AV → Prop) → Prop := con (X := Sw) (fun x => [house x.p x.bs, slM x.t, .int .i64 x.c, .int .i64 x.w]) swOk fun x K => K (.bool (swing x.bs x.t x.c x.w))
theorem F44 : FF 44 C44 := by
  refine fitE [(36, C36)] (by simp only [List.mem_cons, List.not_mem_nil, or_false]; rintro _ rfl <;> first | exact F36) Try.f44 ⟨rfl, by decide +kernel, by decide +kernel⟩ (fun _ _ _ hk h => hk _ h) ?_
  rintro ⟨p, bs, t, c, w⟩ K ⟨h1, h2, h3, h4⟩ h
  refine ⟨Nat.le_of_ble_eq_true rfl, ?_⟩
  dsimp only at h h1 h2 h3 h4 ⊢
  have hc := h1.2.2.2
  have ga := add_lt hc.1 hc.2 h3 h4
  have h1' : sayOk ⟨p, bs, t, add c w⟩ := ⟨h1.1, h1.2.1, h1.2.2.1, ga⟩
  repeat' ((conv => whnf); first | refine vA ?_ | with_reducible first | refine vS ?_ | refine vR ?_ | refine vB ?_ | refine br_nt ?_ | refine br_tt ?_ | refine br_ff ?_ | refine vP ?_ | refine vQ ?_ | refine vT ?_ | refine vF ?_ | refine br_and ?_ | refine br_or ?_ | refine br_d (fun _ => ?_) fun _ => ?_ | refine vM (fun _ => ?_) fun _ => ?_)
  refine Dr.mk ⟨[0, 1, 2, 3, 4, 5, 6, 7, 8, 9, 10, 11, 12, 13, 14, 15, 16, 17, 18, 19, 20, 21], by decide +kernel, ?_⟩
  repeat' ((conv => whnf); first | with_reducible refine Wr.ex (wshw (by omega) (by omega)) ?_ | refine vA ?_ | with_reducible first | refine vS ?_ | refine vR ?_ | refine vB ?_ | refine br_nt ?_ | refine br_tt ?_ | refine br_ff ?_ | refine vP ?_ | refine vQ ?_ | refine vT ?_ | refine vF ?_ | refine br_and ?_ | refine br_or ?_ | refine br_d (fun _ => ?_) fun _ => ?_ | refine vM (fun _ => ?_) fun _ => ?_)
  · rename_i g
    have e := (tmod_has hc.1 hc.2 h3 h4).1 g
    unfold swing at h
    rw [e, Bool.not_false, Bool.true_and] at h
    refine ⟨⟨p, bs, t, c⟩, ?_, ⟨h1⟩, ?_⟩
    · repeat' ((conv => whnf); first | with_reducible exact True.intro | exact vW | with_reducible refine And.intro ?_ ?_)
    dsimp only
    repeat' ((conv => whnf); first | with_reducible refine Wr.ex (wshw (by omega) (by omega)) ?_ | refine vA ?_ | with_reducible first | refine vS ?_ | refine vR ?_ | refine vB ?_ | refine br_nt ?_ | refine br_tt ?_ | refine br_ff ?_ | refine vP ?_ | refine vQ ?_ | refine vT ?_ | refine vF ?_ | refine br_and ?_ | refine br_or ?_ | refine br_d (fun _ => ?_) fun _ => ?_ | refine vM (fun _ => ?_) fun _ => ?_)
    · rename_i hv
      rw [hv, Bool.not_true, Bool.false_and] at h
      exact h
    · rename_i hv
      rw [hv, Bool.not_false, Bool.true_and] at h
      refine ⟨⟨p, bs, t, add c w⟩, ?_, ⟨h1'⟩, ?_⟩
      · repeat' ((conv => whnf); first | with_reducible exact True.intro | exact vW | with_reducible refine And.intro ?_ ?_)
      dsimp only
      repeat' ((conv => whnf); first | refine vA ?_ | with_reducible first | refine vS ?_ | refine vR ?_ | refine vB ?_ | refine br_nt ?_ | refine br_tt ?_ | refine br_ff ?_ | refine vP ?_ | refine vQ ?_ | refine vT ?_ | refine vF ?_ | refine br_and ?_ | refine br_or ?_ | refine br_d (fun _ => ?_) fun _ => ?_ | refine vM (fun _ => ?_) fun _ => ?_)
      exact h
  · rename_i g
    have e : has c w = true := by
      cases e : has c w with
      | true => rfl
      | false => exact absurd ((tmod_has hc.1 hc.2 h3 h4).2 e) g
    unfold swing at h
    rw [e, Bool.not_true, Bool.false_and, Bool.false_and] at h
    exact h
/-- The first k crowds that swing with that person. -/
def swl (bs : List Int) (t : List Mark) (w : Int) : Nat → List Int
  | 0 => []
  | k + 1 => if swing bs t k w then swl bs t w k ++ [(k : Int)] else swl bs t w k
theorem swl_le (bs : List Int) (t : List Mark) (w : Int) : ∀ k, (swl bs t w k).length ≤ k
  | 0 => Nat.le_refl _
  | k + 1 => by
    have := swl_le bs t w k
    unfold swl
    split
    · simp; omega
    · omega
structure Sx where
  p : Int
  bs : List Int
  t : List Mark
  w : Int
def sxOk (x : Sx) : Prop := people x.p ∧ (∀ c, 0 ≤ c → c < 64 → sayOk ⟨x.p, x.bs, x.t, c⟩) ∧ x.t.length ≤ 9 ∧ 0 ≤ x.w ∧ x.w < 6
def C43 : List AV → (AV → Prop) → Prop := con (X := Sx) (fun x => [house x.p x.bs, slM x.t, .int .i64 x.w]) sxOk fun x K => K (slI (swl x.bs x.t x.w (pw x.p).toNat))
theorem app_ext {l : List Int} {c : Int} {g : Nat → List AV} (hg : g 0 = encI c) : (l ++ [c]).length = l.length + 1 ∧ ∀ j, j < (l ++ [c]).length → encI ((l ++ [c]).getD j 0) = appF l.length (fun j => encI (l.getD j 0)) g j := by
  refine ⟨by simp, fun j hj => ?_⟩
  simp only [List.length_append, List.length_cons, List.length_nil] at hj
  unfold appF
  rw [List.getD_eq_getElem?_getD, List.getElem?_append]
  cases hb : Nat.blt j l.length with
  | true =>
    have h1 : j < l.length := Nat.le_of_ble_eq_true hb
    rw [if_pos h1, ← List.getD_eq_getElem?_getD]
    rfl
  | false =>
    have : ¬ j < l.length := fun h => by
      have : Nat.blt j l.length = true := Nat.ble_eq_true_of_le h
      rw [this] at hb; cases hb
    have : j = l.length := by omega
    subst this
    rw [if_neg (by omega)]
    simp [hg]
theorem F43 : FF 43 C43 := by
  refine fitE [(39, C39)] (by simp only [List.mem_cons, List.not_mem_nil, or_false]; rintro _ rfl <;> first | exact F39) Try.f43 ⟨rfl, by decide +kernel, by decide +kernel⟩ (fun _ _ _ hk h => hk _ h) ?_
  rintro ⟨p, bs, t, w⟩ K ⟨h1, h2, h3, h4, h5⟩ h
  refine ⟨Nat.le_of_ble_eq_true rfl, ?_⟩
  dsimp only at h h1 h2 h3 h4 h5 ⊢
  have hp := pw_le h1
  repeat' ((conv => whnf); first | with_reducible refine Wr.ex (wsh h1) ?_ | refine vA ?_ | with_reducible first | refine vS ?_ | refine vR ?_ | refine vB ?_ | refine br_nt ?_ | refine br_tt ?_ | refine br_ff ?_ | refine vP ?_ | refine vQ ?_ | refine vT ?_ | refine vF ?_ | refine br_and ?_ | refine br_or ?_ | refine br_d (fun _ => ?_) fun _ => ?_ | refine vM (fun _ => ?_) fun _ => ?_)
  refine Lp.mk ⟨Nat, fun i => [(1, slM t), (2, .int .i64 w), (3, .ptr 0 0), (6, .nils), (7, .row 1 1 0 (swl bs t w i).length), (12, .int .i64 (pw p)), (13, .int .i64 i)],
    fun i => [.box [.int .i64 p, slI bs], .row 1 (swl bs t w i).length fun j => encI ((swl bs t w i).getD j 0)], fun i => i ≤ (pw p).toNat, fun i => (pw p).toNat - i, ⟨0, Nat.zero_le _, ⟨⟨[some 0, none], [], rfl, rfl, ?_, ?_⟩⟩⟩, ?_⟩
  · repeat' ((conv => whnf); first | with_reducible exact True.intro | exact vW | with_reducible refine And.intro ?_ ?_)
    all_goals exact Chk.mk (pw_sh h1).symm
  · repeat' ((conv => whnf); first | with_reducible exact True.intro | exact vW | with_reducible refine And.intro ?_ ?_)
  intro i i1
  dsimp only
  have hll := swl_le bs t w i
  repeat' ((conv => whnf); first | refine vA ?_ | with_reducible first | refine vS ?_ | refine vR ?_ | refine vB ?_ | refine br_nt ?_ | refine br_tt ?_ | refine br_ff ?_ | refine vP ?_ | refine vQ ?_ | refine vT ?_ | refine vF ?_ | refine br_and ?_ | refine br_or ?_ | refine br_d (fun _ => ?_) fun _ => ?_ | refine vM (fun _ => ?_) fun _ => ?_)
  · rename_i hi
    have hi6 : (i : Int) < 64 := by omega
    have hi0 : (0 : Int) ≤ i := by omega
    have ga := add_lt hi0 hi6 h4 h5
    refine Dr.mk ⟨[0, 1, 2, 3, 4, 5, 6, 7, 8, 9, 10, 11, 12, 13, 14, 15, 16, 17, 18, 19, 20], by decide +kernel, ?_⟩
    repeat' ((conv => whnf); first | with_reducible refine Wr.ex (wshw (by omega) (by omega)) ?_ | refine vA ?_ | with_reducible first | refine vS ?_ | refine vR ?_ | refine vB ?_ | refine br_nt ?_ | refine br_tt ?_ | refine br_ff ?_ | refine vP ?_ | refine vQ ?_ | refine vT ?_ | refine vF ?_ | refine br_and ?_ | refine br_or ?_ | refine br_d (fun _ => ?_) fun _ => ?_ | refine vM (fun _ => ?_) fun _ => ?_)
    · rename_i g
      have e := (and0_has hi0 hi6 h4 h5).1 g
      refine ⟨⟨p, bs, t, i⟩, ?_, ⟨h2 _ hi0 hi6, h3⟩, ?_⟩
      · repeat' ((conv => whnf); first | with_reducible exact True.intro | exact vW | with_reducible refine And.intro ?_ ?_)
      dsimp only
      repeat' ((conv => whnf); first | with_reducible refine Wr.ex (wshw (by omega) (by omega)) ?_ | refine vA ?_ | with_reducible first | refine vS ?_ | refine vR ?_ | refine vB ?_ | refine br_nt ?_ | refine br_tt ?_ | refine br_ff ?_ | refine vP ?_ | refine vQ ?_ | refine vT ?_ | refine vF ?_ | refine br_and ?_ | refine br_or ?_ | refine br_d (fun _ => ?_) fun _ => ?_ | refine vM (fun _ => ?_) fun _ => ?_)
      · rename_i hv
        have hn : swing bs t i w = false := by unfold swing; rw [e, hv]; rfl
        refine ⟨i + 1, by show i + 1 ≤ (pw p).toNat; omega, by show (pw p).toNat - (i + 1) < (pw p).toNat - i; omega, ⟨⟨[some 0, some 1], [], rfl, rfl, ?_, ?_⟩⟩⟩
        · repeat' ((conv => whnf); first | with_reducible exact True.intro | exact vW | with_reducible refine And.intro ?_ ?_)
          all_goals exact Chk.mk ⟨rfl, by rw [swl, if_neg (by rw [hn]; exact Bool.false_ne_true)]⟩
        · repeat' ((conv => whnf); first | with_reducible exact True.intro | exact vW | with_reducible refine And.intro ?_ ?_)
          all_goals exact Chk.mk (by rw [swl, if_neg (by rw [hn]; exact Bool.false_ne_true)]; exact ⟨rfl, fun _ _ => rfl⟩)
      · rename_i hv
        refine ⟨⟨p, bs, t, add i w⟩, ?_, ⟨h2 _ ga.1 ga.2, h3⟩, ?_⟩
        · repeat' ((conv => whnf); first | with_reducible exact True.intro | exact vW | with_reducible refine And.intro ?_ ?_)
        dsimp only
        repeat' ((conv => whnf); first | refine vA ?_ | with_reducible first | refine vS ?_ | refine vR ?_ | refine vB ?_ | refine br_nt ?_ | refine br_tt ?_ | refine br_ff ?_ | refine vP ?_ | refine vQ ?_ | refine vT ?_ | refine vF ?_ | refine br_and ?_ | refine br_or ?_ | refine br_d (fun _ => ?_) fun _ => ?_ | refine vM (fun _ => ?_) fun _ => ?_)
        · rename_i hv2
          have hn : swing bs t i w = true := by unfold swing; rw [e, hv, hv2]; rfl
          refine ⟨i + 1, by show i + 1 ≤ (pw p).toNat; omega, by show (pw p).toNat - (i + 1) < (pw p).toNat - i; omega, ⟨⟨[some 0, some 3], [], rfl, rfl, ?_, ?_⟩⟩⟩
          · repeat' ((conv => whnf); first | with_reducible exact True.intro | exact vW | with_reducible refine And.intro ?_ ?_)
            all_goals exact Chk.mk ⟨rfl, by rw [swl, if_pos hn]; simp⟩
          · repeat' ((conv => whnf); first | with_reducible exact True.intro | exact vW | with_reducible refine And.intro ?_ ?_)
            all_goals exact Chk.mk (by rw [swl, if_pos hn]; exact app_ext rfl)
        · rename_i hv2
          have hn : swing bs t i w = false := by unfold swing; rw [e, hv, hv2]; rfl
          refine ⟨i + 1, by show i + 1 ≤ (pw p).toNat; omega, by show (pw p).toNat - (i + 1) < (pw p).toNat - i; omega, ⟨⟨[some 0, some 1], [], rfl, rfl, ?_, ?_⟩⟩⟩
          · repeat' ((conv => whnf); first | with_reducible exact True.intro | exact vW | with_reducible refine And.intro ?_ ?_)
            all_goals exact Chk.mk ⟨rfl, by rw [swl, if_neg (by rw [hn]; exact Bool.false_ne_true)]⟩
          · repeat' ((conv => whnf); first | with_reducible exact True.intro | exact vW | with_reducible refine And.intro ?_ ?_)
            all_goals exact Chk.mk (by rw [swl, if_neg (by rw [hn]; exact Bool.false_ne_true)]; exact ⟨rfl, fun _ _ => rfl⟩)
    · rename_i g
      have e : has i w = true := by
        cases e : has i w with
        | true => rfl
        | false => exact absurd ((and0_has hi0 hi6 h4 h5).2 e) g
      have hn : swing bs t i w = false := by unfold swing; rw [e]; rfl
      refine ⟨i + 1, by show i + 1 ≤ (pw p).toNat; omega, by show (pw p).toNat - (i + 1) < (pw p).toNat - i; omega, ⟨⟨[some 0, some 1], [], rfl, rfl, ?_, ?_⟩⟩⟩
      · repeat' ((conv => whnf); first | with_reducible exact True.intro | exact vW | with_reducible refine And.intro ?_ ?_)
        all_goals exact Chk.mk ⟨rfl, by rw [swl, if_neg (by rw [hn]; exact Bool.false_ne_true)]⟩
      · repeat' ((conv => whnf); first | with_reducible exact True.intro | exact vW | with_reducible refine And.intro ?_ ?_)
        all_goals exact Chk.mk (by rw [swl, if_neg (by rw [hn]; exact Bool.false_ne_true)]; exact ⟨rfl, fun _ _ => rfl⟩)
  · have e : i = (pw p).toNat := by omega
    subst e
    refine Eq.mp (congrArg (fun z => K (AV.sl 1 _ z)) ?_) h
    funext j
    show _ = encI ((swl bs t w (pw p).toNat).getD (0 + j) 0)
    rw [Nat.zero_add]
end Go.Proofs.Ytbbgojaloebknaa.Vc
