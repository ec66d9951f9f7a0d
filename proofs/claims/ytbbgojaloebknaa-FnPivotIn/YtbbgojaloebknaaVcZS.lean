/- Part ZS: swings, duals, who never matters, by the program. -/
import Derived.Test.YtbbgojaloebknaaVcZV
import Derived.Test.YtbbgojaloebknaaVcZM
import Derived.Test.YtbbgojaloebknaaVcZQ
namespace Go.Proofs.Ytbbgojaloebknaa.Vc
open Go.Proofs
set_option maxRecDepth 10000
set_option maxHeartbeats 4000000
def C22 : List AV → (AV → Prop) → Prop := con (X := Unit) (fun _ => []) (fun _ => True) fun _ K => K (.bool true)
theorem F22 : FF 22 C22 := by
  refine fitE [(45, C45)] (by simp only [List.mem_cons, List.not_mem_nil, or_false]; rintro _ rfl <;> first | exact F45) Try.f22 ⟨rfl, by decide +kernel, by decide +kernel⟩ (fun _ _ _ hk h => hk _ h) ?_
  rintro _ K _ h
  refine ⟨Nat.le_of_ble_eq_true rfl, ?_⟩
  repeat' ((conv => whnf); first | refine vA ?_ | with_reducible first | refine vS ?_ | refine vR ?_ | refine vB ?_ | refine br_nt ?_ | refine br_tt ?_ | refine br_ff ?_ | refine vP ?_ | refine vQ ?_ | refine vT ?_ | refine vF ?_ | refine br_and ?_ | refine br_or ?_ | refine br_d (fun _ => ?_) fun _ => ?_ | refine vM (fun _ => ?_) fun _ => ?_)
  refine ⟨(2, 3), ?_, ⟨by unfold i64r; dsimp only; omega, by unfold i64r; dsimp only; omega⟩, ?_⟩
  · repeat' ((conv => whnf); first | with_reducible exact True.intro | exact vW | with_reducible refine And.intro ?_ ?_)
  have e1 : decide (crowd 2 3) = true := by decide
  dsimp only
  rw [e1]
  repeat' ((conv => whnf); first | refine vA ?_ | with_reducible first | refine vS ?_ | refine vR ?_ | refine vB ?_ | refine br_nt ?_ | refine br_tt ?_ | refine br_ff ?_ | refine vP ?_ | refine vQ ?_ | refine vT ?_ | refine vF ?_ | refine br_and ?_ | refine br_or ?_ | refine br_d (fun _ => ?_) fun _ => ?_ | refine vM (fun _ => ?_) fun _ => ?_)
  refine ⟨(2, 4), ?_, ⟨by unfold i64r; dsimp only; omega, by unfold i64r; dsimp only; omega⟩, ?_⟩
  · repeat' ((conv => whnf); first | with_reducible exact True.intro | exact vW | with_reducible refine And.intro ?_ ?_)
  have e2 : decide (crowd 2 4) = false := by decide
  dsimp only
  rw [e2]
  repeat' ((conv => whnf); first | refine vA ?_ | with_reducible first | refine vS ?_ | refine vR ?_ | refine vB ?_ | refine br_nt ?_ | refine br_tt ?_ | refine br_ff ?_ | refine vP ?_ | refine vQ ?_ | refine vT ?_ | refine vF ?_ | refine br_and ?_ | refine br_or ?_ | refine br_d (fun _ => ?_) fun _ => ?_ | refine vM (fun _ => ?_) fun _ => ?_)
  exact h
def swingsOf (x : Ox) : Int := if termOk x.h x.t ∧ 0 ≤ x.who ∧ x.who < x.h.p then (swl x.h.bs x.t x.who (pw x.h.p).toNat).length else -1
def C20 : List AV → (AV → Prop) → Prop := con (X := Ox) (fun x => [enH x.h, slM x.t, .int .i64 x.who]) (fun x => termI x.h x.t ∧ i64r x.who) fun x K => K (.int .i64 (swingsOf x))
theorem F20 : FF 20 C20 := by
  refine fitE [(38, C38), (43, C43)] (by simp only [List.mem_cons, List.not_mem_nil, or_false]; rintro _ (rfl | rfl) <;> first | exact F38 | exact F43) Try.f20 ⟨rfl, by decide +kernel, by decide +kernel⟩ (fun _ _ _ hk h => hk _ h) ?_
  rintro ⟨⟨p, bs⟩, t, w⟩ K ⟨hI, hw⟩ h
  refine ⟨Nat.le_of_ble_eq_true rfl, ?_⟩
  dsimp only [enH] at h hI hw ⊢
  unfold swingsOf at h
  dsimp only at h
  repeat' ((conv => whnf); first | refine vA ?_ | with_reducible first | refine vS ?_ | refine vR ?_ | refine vB ?_ | refine br_nt ?_ | refine br_tt ?_ | refine br_ff ?_ | refine vP ?_ | refine vQ ?_ | refine vT ?_ | refine vF ?_ | refine br_and ?_ | refine br_or ?_ | refine br_d (fun _ => ?_) fun _ => ?_ | refine vM (fun _ => ?_) fun _ => ?_)
  refine ⟨(⟨p, bs⟩, t), ?_, ⟨hI⟩, ?_⟩
  · repeat' ((conv => whnf); first | with_reducible exact True.intro | exact vW | with_reducible refine And.intro ?_ ?_)
  repeat' ((conv => whnf); first | refine vA ?_ | with_reducible first | refine vS ?_ | refine vR ?_ | refine vB ?_ | refine br_nt ?_ | refine br_tt ?_ | refine br_ff ?_ | refine vP ?_ | refine vQ ?_ | refine vT ?_ | refine vF ?_ | refine br_and ?_ | refine br_or ?_ | refine br_d (fun _ => ?_) fun _ => ?_ | refine vM (fun _ => ?_) fun _ => ?_)
  · rename_i hO h1
    rw [if_neg (fun q => by have := q.2.1; omega)] at h
    exact h
  · rename_i hO _ h2
    rw [if_neg (fun q => by have := q.2.2; omega)] at h
    exact h
  · rename_i hO h1 h2
    have hO' : termOk ⟨p, bs⟩ t := hO
    rw [if_pos ⟨hO', by omega, by omega⟩] at h
    have pp : people p := hO'.1.1
    have hp := pp.2
    refine ⟨⟨p, bs, t, w⟩, ?_, ⟨pp, sayOk_of hO', hO'.2.1, by show 0 ≤ w; omega, by show w < 6; omega⟩, ?_⟩
    · repeat' ((conv => whnf); first | with_reducible exact True.intro | exact vW | with_reducible refine And.intro ?_ ?_)
    dsimp only
    repeat' ((conv => whnf); first | refine vA ?_ | with_reducible first | refine vS ?_ | refine vR ?_ | refine vB ?_ | refine br_nt ?_ | refine br_tt ?_ | refine br_ff ?_ | refine vP ?_ | refine vQ ?_ | refine vT ?_ | refine vF ?_ | refine br_and ?_ | refine br_or ?_ | refine br_d (fun _ => ?_) fun _ => ?_ | refine vM (fun _ => ?_) fun _ => ?_)
    exact h
  · rename_i hO
    rw [if_neg (fun q => hO q.1)] at h
    exact h
def C21 := C20
theorem F21 : FF 21 C21 := by
  refine fitE [(33, C33), (35, C35), (44, C44)] (by simp only [List.mem_cons, List.not_mem_nil, or_false]; rintro _ (rfl | rfl | rfl) <;> first | exact F33 | exact F35 | exact F44) Try.f21 ⟨rfl, by decide +kernel, by decide +kernel⟩ (fun _ _ _ hk h => hk _ h) ?_
  rintro ⟨⟨p, bs⟩, t, w⟩ K ⟨hI, hw⟩ h
  refine ⟨Nat.le_of_ble_eq_true rfl, ?_⟩
  dsimp only [enH] at h hI hw ⊢
  unfold swingsOf at h
  dsimp only at h
  repeat' ((conv => whnf); first | refine vA ?_ | with_reducible first | refine vS ?_ | refine vR ?_ | refine vB ?_ | refine br_nt ?_ | refine br_tt ?_ | refine br_ff ?_ | refine vP ?_ | refine vQ ?_ | refine vT ?_ | refine vF ?_ | refine br_and ?_ | refine br_or ?_ | refine br_d (fun _ => ?_) fun _ => ?_ | refine vM (fun _ => ?_) fun _ => ?_)
  refine ⟨(⟨p, bs⟩, t), ?_, ⟨hI⟩, ?_⟩
  · repeat' ((conv => whnf); first | with_reducible exact True.intro | exact vW | with_reducible refine And.intro ?_ ?_)
  repeat' ((conv => whnf); first | refine vA ?_ | with_reducible first | refine vS ?_ | refine vR ?_ | refine vB ?_ | refine br_nt ?_ | refine br_tt ?_ | refine br_ff ?_ | refine vP ?_ | refine vQ ?_ | refine vT ?_ | refine vF ?_ | refine br_and ?_ | refine br_or ?_ | refine br_d (fun _ => ?_) fun _ => ?_ | refine vM (fun _ => ?_) fun _ => ?_)
  · rename_i hO
    have hO' : termOk ⟨p, bs⟩ t := hO
    have pp : people p := hO'.1.1
    have pw2 := pw_le pp
    have hp1 := pp.1
    have hp := pp.2
    repeat' ((conv => whnf); first | refine vA ?_ | with_reducible first | refine vS ?_ | refine vR ?_ | refine vB ?_ | refine br_nt ?_ | refine br_tt ?_ | refine br_ff ?_ | refine vP ?_ | refine vQ ?_ | refine vT ?_ | refine vF ?_ | refine br_and ?_ | refine br_or ?_ | refine br_d (fun _ => ?_) fun _ => ?_ | refine vM (fun _ => ?_) fun _ => ?_)
    refine ⟨(w, 0, p - 1), ?_, ⟨trivial⟩, ?_⟩
    · repeat' ((conv => whnf); first | with_reducible exact True.intro | exact vW | with_reducible refine And.intro ?_ ?_)
    repeat' ((conv => whnf); first | refine vA ?_ | with_reducible first | refine vS ?_ | refine vR ?_ | refine vB ?_ | refine br_nt ?_ | refine br_tt ?_ | refine br_ff ?_ | refine vP ?_ | refine vQ ?_ | refine vT ?_ | refine vF ?_ | refine br_and ?_ | refine br_or ?_ | refine br_d (fun _ => ?_) fun _ => ?_ | refine vM (fun _ => ?_) fun _ => ?_)
    · rename_i hb
      replace hb : 0 ≤ w ∧ w ≤ p - 1 := hb
      rw [if_pos ⟨hO', by omega, by omega⟩] at h
      refine Lp.mk ⟨Nat, fun i => [(1, slM t), (2, .int .i64 w), (3, .ptr 0 0), (7, .int .i64 (swl bs t w i).length), (8, .int .i64 i)],
        fun i => [.box [.int .i64 p, slI bs]], fun i => i ≤ (pw p).toNat, fun i => (pw p).toNat - i, ⟨0, Nat.zero_le _, ⟨⟨[some 0], [], rfl, rfl, ?_, ?_⟩⟩⟩, ?_⟩
      · repeat' ((conv => whnf); first | with_reducible exact True.intro | exact vW | with_reducible refine And.intro ?_ ?_)
      · repeat' ((conv => whnf); first | with_reducible exact True.intro | exact vW | with_reducible refine And.intro ?_ ?_)
      intro i i1
      dsimp only
      have hll := swl_le bs t w i
      repeat' ((conv => whnf); first | with_reducible refine Wr.ex (wsh pp) ?_ | refine vA ?_ | with_reducible first | refine vS ?_ | refine vR ?_ | refine vB ?_ | refine br_nt ?_ | refine br_tt ?_ | refine br_ff ?_ | refine vP ?_ | refine vQ ?_ | refine vT ?_ | refine vF ?_ | refine br_and ?_ | refine br_or ?_ | refine br_d (fun _ => ?_) fun _ => ?_ | refine vM (fun _ => ?_) fun _ => ?_)
      · rename_i hi
        rw [pw_sh pp] at hi
        have hi6 : (i : Int) < 64 := by omega
        have hi0 : (0 : Int) ≤ i := by omega
        refine ⟨⟨p, bs, t, i, w⟩, ?_, ⟨swOk_of hO' (by omega) (by omega) _ hi0 hi6⟩, ?_⟩
        · repeat' ((conv => whnf); first | with_reducible exact True.intro | exact vW | with_reducible refine And.intro ?_ ?_)
        dsimp only
        repeat' ((conv => whnf); first | refine vA ?_ | with_reducible first | refine vS ?_ | refine vR ?_ | refine vB ?_ | refine br_nt ?_ | refine br_tt ?_ | refine br_ff ?_ | refine vP ?_ | refine vQ ?_ | refine vT ?_ | refine vF ?_ | refine br_and ?_ | refine br_or ?_ | refine br_d (fun _ => ?_) fun _ => ?_ | refine vM (fun _ => ?_) fun _ => ?_)
        · rename_i hv
          have e : ((swl bs t w (i + 1)).length : Int) = (swl bs t w i).length + 1 := by rw [swl, if_pos hv]; simp
          refine ⟨i + 1, by show i + 1 ≤ (pw p).toNat; omega, by show (pw p).toNat - (i + 1) < (pw p).toNat - i; omega, ⟨⟨[some 0], [], rfl, rfl, ?_, ?_⟩⟩⟩
          · repeat' ((conv => whnf); first | with_reducible exact True.intro | exact vW | with_reducible refine And.intro ?_ ?_)
          · repeat' ((conv => whnf); first | with_reducible exact True.intro | exact vW | with_reducible refine And.intro ?_ ?_)
        · rename_i hv
          have e : ((swl bs t w (i + 1)).length : Int) = (swl bs t w i).length := by rw [swl, if_neg (by rw [hv]; exact Bool.false_ne_true)]
          refine ⟨i + 1, by show i + 1 ≤ (pw p).toNat; omega, by show (pw p).toNat - (i + 1) < (pw p).toNat - i; omega, ⟨⟨[some 0], [], rfl, rfl, ?_, ?_⟩⟩⟩
          · repeat' ((conv => whnf); first | with_reducible exact True.intro | exact vW | with_reducible refine And.intro ?_ ?_)
          · repeat' ((conv => whnf); first | with_reducible exact True.intro | exact vW | with_reducible refine And.intro ?_ ?_)
      · rename_i hi
        rw [pw_sh pp] at hi
        rw [show (pw p).toNat = i by omega] at h
        exact h
    · rename_i hb
      replace hb : ¬ (0 ≤ w ∧ w ≤ p - 1) := hb
      rw [if_neg (fun q => hb ⟨q.2.1, by have := q.2.2; omega⟩)] at h
      exact h
  · rename_i hO
    rw [if_neg (fun q => hO q.1)] at h
    exact h
theorem dual_ext {bs : List Int} {t : List Mark} {i : Nat} (hi : i < t.length) {g : Nat → List AV} (hg : g 0 = encM (dualM bs (t.getD i default))) : i + 1 = i + 1 ∧ ∀ j, j < i + 1 → encM ((dualT bs (t.take (i + 1))).getD j default) = appF i (fun j => encM ((dualT bs (t.take i)).getD j default)) g j := by
  have e : dualT bs (t.take (i + 1)) = dualT bs (t.take i) ++ [dualM bs (t.getD i default)] := by
    unfold dualT
    rw [take_succ' default hi, List.map_append]
    rfl
  have l : (dualT bs (t.take i)).length = i := by rw [dualT, List.length_map, List.length_take]; omega
  have := app_extG encM default (l := dualT bs (t.take i)) hg
  rw [l] at this
  rw [e]
  refine ⟨rfl, fun j hj => this.2 j (by rw [List.length_append, l]; simpa using hj)⟩
structure Dx where
  p : Int
  bs : List Int
  t : List Mark
def C46 : List AV → (AV → Prop) → Prop := con (X := Dx) (fun x => [house x.p x.bs, slM x.t]) (fun x => termOk ⟨x.p, x.bs⟩ x.t) fun x K => K (slM (dualT x.bs x.t))
theorem F46 : FF 46 C46 := by
  refine fitE [(50, C50)] (by simp only [List.mem_cons, List.not_mem_nil, or_false]; rintro _ rfl <;> first | exact F50) Try.f46 ⟨rfl, by decide +kernel, by decide +kernel⟩ (fun _ _ _ hk h => hk _ h) ?_
  rintro ⟨p, bs, t⟩ K hO h
  refine ⟨Nat.le_of_ble_eq_true rfl, ?_⟩
  dsimp only at h hO ⊢
  have hg : ∀ m ∈ t, goodM bs m := walk_good t 0 1 hO.2.2
  have ht9 : t.length ≤ 9 := hO.2.1
  have pp : people p := hO.1.1
  have pl := pw_le pp
  repeat' ((conv => whnf); first | refine vA ?_ | with_reducible first | refine vS ?_ | refine vR ?_ | refine vB ?_ | refine br_nt ?_ | refine br_tt ?_ | refine br_ff ?_ | refine vP ?_ | refine vQ ?_ | refine vT ?_ | refine vF ?_ | refine br_and ?_ | refine br_or ?_ | refine br_d (fun _ => ?_) fun _ => ?_ | refine vM (fun _ => ?_) fun _ => ?_)
  refine Lp.mk ⟨Nat, fun i => [(2, .ptr 0 0), (5, .row 1 3 0 i), (9, slM t), (10, .int .i64 t.length), (11, .int .i64 i)],
    fun i => [.box [.int .i64 p, slI bs], .row 3 i fun j => encM ((dualT bs (t.take i)).getD j default)], fun i => i ≤ t.length, fun i => t.length - i, ⟨0, Nat.zero_le _, ⟨⟨[some 0, none], [], rfl, rfl, ?_, ?_⟩⟩⟩, ?_⟩
  · repeat' ((conv => whnf); first | with_reducible exact True.intro | exact vW | with_reducible refine And.intro ?_ ?_)
  · repeat' ((conv => whnf); first | with_reducible exact True.intro | exact vW | with_reducible refine And.intro ?_ ?_)
  intro i i1
  dsimp only
  repeat' ((conv => whnf); first | refine vA ?_ | with_reducible first | refine vS ?_ | refine vR ?_ | refine vB ?_ | refine br_nt ?_ | refine br_tt ?_ | refine br_ff ?_ | refine vP ?_ | refine vQ ?_ | refine vT ?_ | refine vF ?_ | refine br_and ?_ | refine br_or ?_ | refine br_d (fun _ => ?_) fun _ => ?_ | refine vM (fun _ => ?_) fun _ => ?_)
  · rename_i hk
    have hi : i < t.length := by omega
    have hm := hg _ (getD_mem' (l := t) (i := i) (d := default) hi)
    have hk' : (t.getD i default).kind = 0 := hk
    rcases hm with ⟨_, g1, g2, g3, g4⟩ | g | g <;> try omega
    have hb := body_ok (p := p) (bs := bs) hO.1.2.2 g1 g2
    have hh := heads_le (bs.getD (t.getD i default).at_.toNat 0).toNat
    have e0 : ((i : Nat) : Int).toNat = i := rfl
    refine Dr.mk ⟨[0, 1, 2, 3, 4, 5, 8, 9, 6, 7, 10, 11, 12], by decide +kernel, ?_⟩
    rw [e0]
    repeat' ((conv => whnf); first | refine vA ?_ | with_reducible first | refine vS ?_ | refine vR ?_ | refine vB ?_ | refine br_nt ?_ | refine br_tt ?_ | refine br_ff ?_ | refine vP ?_ | refine vQ ?_ | refine vT ?_ | refine vF ?_ | refine br_and ?_ | refine br_or ?_ | refine br_d (fun _ => ?_) fun _ => ?_ | refine vM (fun _ => ?_) fun _ => ?_)
    refine ⟨bs.getD (t.getD i default).at_.toNat 0, ?_, ⟨hb.2.1, by have := hb.2.2; omega⟩, ?_⟩
    · repeat' ((conv => whnf); first | with_reducible exact True.intro | exact vW | with_reducible refine And.intro ?_ ?_)
    repeat' ((conv => whnf); first | refine vA ?_ | with_reducible first | refine vS ?_ | refine vR ?_ | refine vB ?_ | refine br_nt ?_ | refine br_tt ?_ | refine br_ff ?_ | refine vP ?_ | refine vQ ?_ | refine vT ?_ | refine vF ?_ | refine br_and ?_ | refine br_or ?_ | refine br_d (fun _ => ?_) fun _ => ?_ | refine vM (fun _ => ?_) fun _ => ?_)
    refine ⟨i + 1, by omega, by omega, ⟨⟨[some 0, some 4], [], rfl, rfl, ?_, ?_⟩⟩⟩
    · repeat' ((conv => whnf); first | with_reducible exact True.intro | exact vW | with_reducible refine And.intro ?_ ?_)
    · repeat' ((conv => whnf); first | with_reducible exact True.intro | exact vW | with_reducible refine And.intro ?_ ?_)
      all_goals exact Chk.mk (dual_ext hi (by unfold dualM; rw [if_pos hk']; show [AV.int .i64 (t.getD i default).kind, _, _] = [AV.int .i64 0, _, _]; rw [hk']))
  · rename_i hk hk1
    have hi : i < t.length := by omega
    have hk' : ¬ (t.getD i default).kind = 0 := hk
    have hk1' : (t.getD i default).kind = 1 := hk1
    refine ⟨i + 1, by omega, by omega, ⟨⟨[some 0, some 4], [], rfl, rfl, ?_, ?_⟩⟩⟩
    · repeat' ((conv => whnf); first | with_reducible exact True.intro | exact vW | with_reducible refine And.intro ?_ ?_)
    · repeat' ((conv => whnf); first | with_reducible exact True.intro | exact vW | with_reducible refine And.intro ?_ ?_)
      all_goals exact Chk.mk (dual_ext hi (by unfold dualM; rw [if_neg hk', if_pos hk1']; rfl))
  · rename_i hk hk1
    have hi : i < t.length := by omega
    have hk' : ¬ (t.getD i default).kind = 0 := hk
    have hk1' : ¬ (t.getD i default).kind = 1 := hk1
    refine ⟨i + 1, by omega, by omega, ⟨⟨[some 0, some 4], [], rfl, rfl, ?_, ?_⟩⟩⟩
    · repeat' ((conv => whnf); first | with_reducible exact True.intro | exact vW | with_reducible refine And.intro ?_ ?_)
    · repeat' ((conv => whnf); first | with_reducible exact True.intro | exact vW | with_reducible refine And.intro ?_ ?_)
      all_goals exact Chk.mk (dual_ext hi (by unfold dualM; rw [if_neg hk', if_neg hk1']; rfl))
  · have e : t.take i = t := List.take_of_length_le (by omega)
    rw [e]
    have e2 : (fun k => (fun j => encM ((dualT bs t).getD j default)) (0 + k)) = fun j => encM ((dualT bs t).getD j default) := by funext k; rw [Nat.zero_add]
    have e3 : i = (dualT bs t).length := by rw [dualT, List.length_map]; omega
    show K (AV.sl 3 i fun k => (fun j => encM ((dualT bs t).getD j default)) (0 + k))
    rw [e2, e3]
    exact h
def C23 : List AV → (AV → Prop) → Prop := con (X := House × List Mark) (fun x => [enH x.1, slM x.2]) (fun x => termI x.1 x.2 ∧ termOk x.1 x.2) fun x K => K (slM (dualT x.1.bs x.2))
theorem F23 : FF 23 C23 := by
  refine fitE [(38, C38), (46, C46)] (by simp only [List.mem_cons, List.not_mem_nil, or_false]; rintro _ (rfl | rfl) <;> first | exact F38 | exact F46) Try.f23 ⟨rfl, by decide +kernel, by decide +kernel⟩ (fun _ _ _ hk h => hk _ h) ?_
  rintro ⟨⟨p, bs⟩, t⟩ K ⟨hI, hO⟩ h
  refine ⟨Nat.le_of_ble_eq_true rfl, ?_⟩
  dsimp only [enH] at h hI hO ⊢
  repeat' ((conv => whnf); first | refine vA ?_ | with_reducible first | refine vS ?_ | refine vR ?_ | refine vB ?_ | refine br_nt ?_ | refine br_tt ?_ | refine br_ff ?_ | refine vP ?_ | refine vQ ?_ | refine vT ?_ | refine vF ?_ | refine br_and ?_ | refine br_or ?_ | refine br_d (fun _ => ?_) fun _ => ?_ | refine vM (fun _ => ?_) fun _ => ?_)
  refine ⟨(⟨p, bs⟩, t), ?_, ⟨hI⟩, ?_⟩
  · repeat' ((conv => whnf); first | with_reducible exact True.intro | exact vW | with_reducible refine And.intro ?_ ?_)
  repeat' ((conv => whnf); first | refine vA ?_ | with_reducible first | refine vS ?_ | refine vR ?_ | refine vB ?_ | refine br_nt ?_ | refine br_tt ?_ | refine br_ff ?_ | refine vP ?_ | refine vQ ?_ | refine vT ?_ | refine vF ?_ | refine br_and ?_ | refine br_or ?_ | refine br_d (fun _ => ?_) fun _ => ?_ | refine vM (fun _ => ?_) fun _ => ?_)
  refine ⟨⟨p, bs, t⟩, ?_, ⟨hO⟩, ?_⟩
  · repeat' ((conv => whnf); first | with_reducible exact True.intro | exact vW | with_reducible refine And.intro ?_ ?_)
  repeat' ((conv => whnf); first | refine vA ?_ | with_reducible first | refine vS ?_ | refine vR ?_ | refine vB ?_ | refine br_nt ?_ | refine br_tt ?_ | refine br_ff ?_ | refine vP ?_ | refine vQ ?_ | refine vT ?_ | refine vF ?_ | refine br_and ?_ | refine br_or ?_ | refine br_d (fun _ => ?_) fun _ => ?_ | refine vM (fun _ => ?_) fun _ => ?_)
  exact h
def C28 : List AV → (AV → Prop) → Prop := con (X := Sy) (fun x => [house x.p x.bs, slM x.t, .int .i64 x.c]) (fun x => termI ⟨x.p, x.bs⟩ x.t ∧ i64r x.c) fun x K => K (.bool (decide (termOk ⟨x.p, x.bs⟩ x.t) && decide (crowd x.p x.c) && says x.bs x.c x.t))
theorem F28 : FF 28 C28 := by
  refine fitE [(38, C38), (54, C54), (39, C39)] (by simp only [List.mem_cons, List.not_mem_nil, or_false]; rintro _ (rfl | rfl | rfl) <;> first | exact F38 | exact F54 | exact F39) Try.f28 ⟨rfl, by decide +kernel, by decide +kernel⟩ (fun _ _ _ hk h => hk _ h) ?_
  rintro ⟨p, bs, t, c⟩ K ⟨hI, hc⟩ h
  refine ⟨Nat.le_of_ble_eq_true rfl, ?_⟩
  dsimp only at h hI hc ⊢
  repeat' ((conv => whnf); first | refine vA ?_ | with_reducible first | refine vS ?_ | refine vR ?_ | refine vB ?_ | refine br_nt ?_ | refine br_tt ?_ | refine br_ff ?_ | refine vP ?_ | refine vQ ?_ | refine vT ?_ | refine vF ?_ | refine br_and ?_ | refine br_or ?_ | refine br_d (fun _ => ?_) fun _ => ?_ | refine vM (fun _ => ?_) fun _ => ?_)
  refine ⟨(⟨p, bs⟩, t), ?_, ⟨hI⟩, ?_⟩
  · repeat' ((conv => whnf); first | with_reducible exact True.intro | exact vW | with_reducible refine And.intro ?_ ?_)
  repeat' ((conv => whnf); first | refine vA ?_ | with_reducible first | refine vS ?_ | refine vR ?_ | refine vB ?_ | refine br_nt ?_ | refine br_tt ?_ | refine br_ff ?_ | refine vP ?_ | refine vQ ?_ | refine vT ?_ | refine vF ?_ | refine br_and ?_ | refine br_or ?_ | refine br_d (fun _ => ?_) fun _ => ?_ | refine vM (fun _ => ?_) fun _ => ?_)
  · rename_i hO
    have hO' : termOk ⟨p, bs⟩ t := hO
    rw [decide_eq_true hO', Bool.true_and] at h
    have hp := hO'.1.1
    refine ⟨(p, c), ?_, ⟨hI.1.1, hc⟩, ?_⟩
    · repeat' ((conv => whnf); first | with_reducible exact True.intro | exact vW | with_reducible refine And.intro ?_ ?_)
    repeat' ((conv => whnf); first | refine vA ?_ | with_reducible first | refine vS ?_ | refine vR ?_ | refine vB ?_ | refine br_nt ?_ | refine br_tt ?_ | refine br_ff ?_ | refine vP ?_ | refine vQ ?_ | refine vT ?_ | refine vF ?_ | refine br_and ?_ | refine br_or ?_ | refine br_d (fun _ => ?_) fun _ => ?_ | refine vM (fun _ => ?_) fun _ => ?_)
    · rename_i hC
      have hC' : crowd p c := hC
      rw [decide_eq_true hC', Bool.true_and] at h
      have pl := pw_le hC'.1
      refine ⟨⟨p, bs, t, c⟩, ?_, ⟨sayOk_of hO' c hC'.2.1 (by omega), hO'.2.1⟩, ?_⟩
      · repeat' ((conv => whnf); first | with_reducible exact True.intro | exact vW | with_reducible refine And.intro ?_ ?_)
      repeat' ((conv => whnf); first | refine vA ?_ | with_reducible first | refine vS ?_ | refine vR ?_ | refine vB ?_ | refine br_nt ?_ | refine br_tt ?_ | refine br_ff ?_ | refine vP ?_ | refine vQ ?_ | refine vT ?_ | refine vF ?_ | refine br_and ?_ | refine br_or ?_ | refine br_d (fun _ => ?_) fun _ => ?_ | refine vM (fun _ => ?_) fun _ => ?_)
      exact h
    · rename_i hC
      rw [decide_eq_false (show ¬ crowd p c from hC), Bool.false_and] at h
      exact h
  · rename_i hO
    rw [decide_eq_false (show ¬ termOk ⟨p, bs⟩ t from hO), Bool.false_and, Bool.false_and] at h
    exact h
/-- Who never matters, of the first k people. -/
def idleF (bs : List Int) (t : List Mark) (n : Nat) : Nat → Int
  | 0 => 0
  | k + 1 => if (swl bs t k n).length = 0 then add (idleF bs t n k) k else idleF bs t n k
theorem idle_small : ∀ k, k < 6 → ∀ c, c < 2 ^ k → 0 ≤ add (c : Nat) (k : Nat) ∧ add (c : Nat) (k : Nat) < (2 ^ (k + 1) : Nat) := by decide +kernel
theorem idle_lt (bs : List Int) (t : List Mark) (n : Nat) : ∀ k, k ≤ 6 → 0 ≤ idleF bs t n k ∧ idleF bs t n k < (2 ^ k : Nat)
  | 0, _ => ⟨Int.le_refl 0, by show (0 : Int) < 1; decide⟩
  | k + 1, h => by
    have := idle_lt bs t n k (by omega)
    unfold idleF
    split
    · have e := idle_small k (by omega) (idleF bs t n k).toNat (by omega)
      rwa [Int.toNat_of_nonneg this.1] at e
    · rw [Nat.pow_succ]; omega
theorem has_add : ∀ k, k < 6 → ∀ c, c < 2 ^ k → ∀ w, w < 6 → has (add (c : Nat) (k : Nat)) (w : Nat) = (has (c : Nat) (w : Nat) || decide (w = k)) := by decide +kernel
theorem has_not : ∀ k, k < 7 → ∀ c, c < 2 ^ k → ∀ w, w < 6 → k ≤ w → has (c : Nat) (w : Nat) = false := by decide +kernel
theorem idle_has (bs : List Int) (t : List Mark) (n : Nat) : ∀ k, k ≤ 6 → ∀ w, w < 6 → has (idleF bs t n k) (w : Nat) = (decide (w < k) && decide ((swl bs t w n).length = 0))
  | 0, _, w, hw => by
    have := has_not 0 (by omega) 0 (by decide) w hw (by omega)
    exact this
  | k + 1, h, w, hw => by
    have ih := idle_has bs t n k (by omega) w hw
    have hl := idle_lt bs t n k (by omega)
    unfold idleF
    split
    · rename_i h0
      have e := has_add k (by omega) (idleF bs t n k).toNat (by omega) w hw
      rw [Int.toNat_of_nonneg hl.1] at e
      rw [e, ih]
      by_cases h1 : w = k
      · subst h1; simp [h0]
      · have : decide (w < k + 1) = decide (w < k) := by rw [decide_eq_decide]; omega
        rw [this]; simp [h1]
    · rename_i h0
      rw [ih]
      by_cases h1 : w = k
      · subst h1; simp [h0]
      · have : decide (w < k + 1) = decide (w < k) := by rw [decide_eq_decide]; omega
        rw [this]
def C24 : List AV → (AV → Prop) → Prop := con (X := House × List Mark) (fun x => [enH x.1, slM x.2]) (fun x => termI x.1 x.2 ∧ termOk x.1 x.2) fun x K => K (.int .i64 (idleF x.1.bs x.2 (pw x.1.p).toNat x.1.p.toNat))
theorem F24 : FF 24 C24 := by
  refine fitE [(38, C38), (43, C43)] (by simp only [List.mem_cons, List.not_mem_nil, or_false]; rintro _ (rfl | rfl) <;> first | exact F38 | exact F43) Try.f24 ⟨rfl, by decide +kernel, by decide +kernel⟩ (fun _ _ _ hk h => hk _ h) ?_
  rintro ⟨⟨p, bs⟩, t⟩ K ⟨hI, hO⟩ h
  refine ⟨Nat.le_of_ble_eq_true rfl, ?_⟩
  dsimp only [enH] at h hI hO ⊢
  have pp : people p := hO.1.1
  have hp1 := pp.1
  have hp6 := pp.2
  repeat' ((conv => whnf); first | refine vA ?_ | with_reducible first | refine vS ?_ | refine vR ?_ | refine vB ?_ | refine br_nt ?_ | refine br_tt ?_ | refine br_ff ?_ | refine vP ?_ | refine vQ ?_ | refine vT ?_ | refine vF ?_ | refine br_and ?_ | refine br_or ?_ | refine br_d (fun _ => ?_) fun _ => ?_ | refine vM (fun _ => ?_) fun _ => ?_)
  refine ⟨(⟨p, bs⟩, t), ?_, ⟨hI⟩, ?_⟩
  · repeat' ((conv => whnf); first | with_reducible exact True.intro | exact vW | with_reducible refine And.intro ?_ ?_)
  repeat' ((conv => whnf); first | refine vA ?_ | with_reducible first | refine vS ?_ | refine vR ?_ | refine vB ?_ | refine br_nt ?_ | refine br_tt ?_ | refine br_ff ?_ | refine vP ?_ | refine vQ ?_ | refine vT ?_ | refine vF ?_ | refine br_and ?_ | refine br_or ?_ | refine br_d (fun _ => ?_) fun _ => ?_ | refine vM (fun _ => ?_) fun _ => ?_)
  refine Lp.mk ⟨Nat, fun i => [(1, slM t), (2, .ptr 0 0), (5, .int .i64 (idleF bs t (pw p).toNat i)), (12, .int .i64 p), (13, .int .i64 i)],
    fun i => [.box [.int .i64 p, slI bs]], fun i => i ≤ p.toNat, fun i => p.toNat - i, ⟨0, Nat.zero_le _, ⟨⟨[some 0], [], rfl, rfl, ?_, ?_⟩⟩⟩, ?_⟩
  · repeat' ((conv => whnf); first | with_reducible exact True.intro | exact vW | with_reducible refine And.intro ?_ ?_)
  · repeat' ((conv => whnf); first | with_reducible exact True.intro | exact vW | with_reducible refine And.intro ?_ ?_)
  intro i i1
  dsimp only
  have hl := idle_lt bs t (pw p).toNat i (by omega)
  repeat' ((conv => whnf); first | refine vA ?_ | with_reducible first | refine vS ?_ | refine vR ?_ | refine vB ?_ | refine br_nt ?_ | refine br_tt ?_ | refine br_ff ?_ | refine vP ?_ | refine vQ ?_ | refine vT ?_ | refine vF ?_ | refine br_and ?_ | refine br_or ?_ | refine br_d (fun _ => ?_) fun _ => ?_ | refine vM (fun _ => ?_) fun _ => ?_)
  · refine ⟨⟨p, bs, t, i⟩, ?_, ⟨pp, sayOk_of hO, hO.2.1, by show (0 : Int) ≤ i; omega, by show (i : Int) < 6; omega⟩, ?_⟩
    · repeat' ((conv => whnf); first | with_reducible exact True.intro | exact vW | with_reducible refine And.intro ?_ ?_)
    dsimp only
    repeat' ((conv => whnf); first | with_reducible refine Wr.ex (wshw (by omega) (by omega)) ?_ | refine vA ?_ | with_reducible first | refine vS ?_ | refine vR ?_ | refine vB ?_ | refine br_nt ?_ | refine br_tt ?_ | refine br_ff ?_ | refine vP ?_ | refine vQ ?_ | refine vT ?_ | refine vF ?_ | refine br_and ?_ | refine br_or ?_ | refine br_d (fun _ => ?_) fun _ => ?_ | refine vM (fun _ => ?_) fun _ => ?_)
    · rename_i h0
      refine ⟨i + 1, by show i + 1 ≤ p.toNat; omega, by show p.toNat - (i + 1) < p.toNat - i; omega, ⟨⟨[some 0], [], rfl, rfl, ?_, ?_⟩⟩⟩
      · repeat' ((conv => whnf); first | with_reducible exact True.intro | exact vW | with_reducible refine And.intro ?_ ?_)
        all_goals exact Chk.mk (by rw [idleF, if_pos (by omega)]; rfl)
      · repeat' ((conv => whnf); first | with_reducible exact True.intro | exact vW | with_reducible refine And.intro ?_ ?_)
    · rename_i h0
      refine ⟨i + 1, by show i + 1 ≤ p.toNat; omega, by show p.toNat - (i + 1) < p.toNat - i; omega, ⟨⟨[some 0], [], rfl, rfl, ?_, ?_⟩⟩⟩
      · repeat' ((conv => whnf); first | with_reducible exact True.intro | exact vW | with_reducible refine And.intro ?_ ?_)
        all_goals exact Chk.mk (by rw [idleF, if_neg (by omega)])
      · repeat' ((conv => whnf); first | with_reducible exact True.intro | exact vW | with_reducible refine And.intro ?_ ?_)
  · rw [show i = p.toNat by omega]
    exact h
end Go.Proofs.Ytbbgojaloebknaa.Vc
