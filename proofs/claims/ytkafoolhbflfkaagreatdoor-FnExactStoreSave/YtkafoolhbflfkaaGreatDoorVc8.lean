/- Part XJ: what a deed makes of a place, by the implementation. -/
import Derived.Test.YtkafoolhbflfkaaGreatDoorVc7
section
namespace Go.Proofs.YtkafoolhbflfkaaGreatDoor.Vc
open Go.Proofs
set_option maxRecDepth 10000
set_option maxHeartbeats 4000000
def C266 : List AV → (AV → Prop) → Prop := con (X := Pc) (fun x => [enPl x.x, .int .i64 x.r, .int .i64 x.c]) (fun x => placeI x.x ∧ placeOk x.x ∧ i64r x.r ∧ i64r x.c) fun x K => K (.bool (consR x.x x.r x.c))
theorem F266 : FF 140 C266 := by
 refine fitE [(93, C54), (83, C176), (161, C39)] (by simp only [List.mem_cons, List.not_mem_nil, or_false]; rintro _ (rfl | rfl | rfl) <;> first | exact F54 | exact F176 | exact F39) Tryz.f140 ⟨rfl, by decide +kernel, by decide +kernel⟩ (fun _ _ _ hk h => hk _ h) ?_
 rintro ⟨⟨p, bs, rs⟩, r, c⟩ K ⟨hI, hO, hr, hc⟩ h
 refine ⟨Nat.le_of_ble_eq_true rfl, ?_⟩
 have hI1 := hI.1
 have hI2 := hI.2.1
 have hI3 := hI.2.2
 have hp := hI.1.1.1
 unfold consR at h
 dsimp only [enPl, plC] at h hr hc hI2 hI3 hp ⊢
 by_cases hin : 0 ≤ r ∧ r < rs.length
 ·rw [if_pos hin] at h
  have hr2 : r.toNat < rs.length := by omega
  obtain ⟨t, e'⟩ := bad_term (hO.2.2 _ (getD_mem' (l := rs) (i := r.toNat) (d := ⟨#[]⟩) hr2))
  rw [e'] at h
  dsimp only at h
  obtain ⟨ht, hOt⟩ := rdT_termI hI1 e'
  repeat' ((conv=>whnf);first|refine vA ?_|with_reducible first|refine v8 ?_|refine Sp.mk ?_ ?_|refine vS ?_|refine vR ?_|refine vB ?_|refine br_nt ?_|refine br_tt ?_|refine br_ff ?_|refine vP ?_|refine vQ ?_|refine vT ?_|refine vF ?_|refine br_and ?_|refine br_or ?_|refine br_d (fun _=>?_) fun _=>?_|refine vM (fun _=>?_) fun _=>?_)
  refine ⟨(p, c), ?_, ⟨hp, hc⟩, ?_⟩
  ·repeat' ((conv=>whnf);first|with_reducible exact True.intro|exact vW|with_reducible refine And.intro ?_ ?_)
  by_cases hcr : crowd p c
  ·rw [decide_eq_true hcr, Bool.true_and] at h
   dsimp only
   rw [decide_eq_true hcr]
   repeat' ((conv=>whnf);first|refine vA ?_|with_reducible first|refine v8 ?_|refine Sp.mk ?_ ?_|refine vS ?_|refine vR ?_|refine vB ?_|refine br_nt ?_|refine br_tt ?_|refine br_ff ?_|refine vP ?_|refine vQ ?_|refine vT ?_|refine vF ?_|refine br_and ?_|refine br_or ?_|refine br_d (fun _=>?_) fun _=>?_|refine vM (fun _=>?_) fun _=>?_)
   refine Dr.mk ⟨(.rd 0 (.rd 1 (.rd 2 (.rd 3 (.rd 4 (.rd 5 (.rd 6 (.ef 7 (.rd 8 (.rd 9 (.rd 10 (.rd 11 (.rd 12 .dn))))) .no)))))))), by decide +kernel, ?_⟩
   repeat' ((conv=>whnf);first|refine vA ?_|with_reducible first|refine v8 ?_|refine Sp.mk ?_ ?_|refine vS ?_|refine vR ?_|refine vB ?_|refine br_nt ?_|refine br_tt ?_|refine br_ff ?_|refine vP ?_|refine vQ ?_|refine vT ?_|refine vF ?_|refine br_and ?_|refine br_or ?_|refine br_d (fun _=>?_) fun _=>?_|refine vM (fun _=>?_) fun _=>?_)
   refine ⟨⟨⟨p, bs⟩, rs.getD r.toNat ⟨#[]⟩⟩, ?_, ⟨hI1, getD_len hI3 hr2⟩, ?_⟩
   ·repeat' ((conv=>whnf);first|with_reducible exact True.intro|exact vW|with_reducible refine And.intro ?_ ?_)
   refine And.intro (fun e => ?_) (fun u e => ?_)
   ·rw [show rdT 49 (Place.h ⟨p, bs, rs⟩) (rs.getD r.toNat ⟨#[]⟩) = none from e] at e'
    cases e'
   ·rw [show rdT 49 (Place.h ⟨p, bs, rs⟩) (rs.getD r.toNat ⟨#[]⟩) = some u from e] at e'
    cases e'
    repeat' ((conv=>whnf);first|refine vA ?_|with_reducible first|refine v8 ?_|refine Sp.mk ?_ ?_|refine vS ?_|refine vR ?_|refine vB ?_|refine br_nt ?_|refine br_tt ?_|refine br_ff ?_|refine vP ?_|refine vQ ?_|refine vT ?_|refine vF ?_|refine br_and ?_|refine br_or ?_|refine br_d (fun _=>?_) fun _=>?_|refine vM (fun _=>?_) fun _=>?_)
    refine ⟨⟨p, bs, t, c⟩, ?_, ⟨sayOk_of' hOt hcr, hOt.2.1⟩, ?_⟩
    ·repeat' ((conv=>whnf);first|with_reducible exact True.intro|exact vW|with_reducible refine And.intro ?_ ?_)
    repeat' ((conv=>whnf);first|refine vA ?_|with_reducible first|refine v8 ?_|refine Sp.mk ?_ ?_|refine vS ?_|refine vR ?_|refine vB ?_|refine br_nt ?_|refine br_tt ?_|refine br_ff ?_|refine vP ?_|refine vQ ?_|refine vT ?_|refine vF ?_|refine br_and ?_|refine br_or ?_|refine br_d (fun _=>?_) fun _=>?_|refine vM (fun _=>?_) fun _=>?_)
    exact h
  ·rw [decide_eq_false hcr, Bool.false_and] at h
   dsimp only
   rw [decide_eq_false hcr]
   repeat' ((conv=>whnf);first|refine vA ?_|with_reducible first|refine v8 ?_|refine Sp.mk ?_ ?_|refine vS ?_|refine vR ?_|refine vB ?_|refine br_nt ?_|refine br_tt ?_|refine br_ff ?_|refine vP ?_|refine vQ ?_|refine vT ?_|refine vF ?_|refine br_and ?_|refine br_or ?_|refine br_d (fun _=>?_) fun _=>?_|refine vM (fun _=>?_) fun _=>?_)
   exact h
 ·rw [if_neg hin] at h
  repeat' ((conv=>whnf);first|refine vA ?_|with_reducible first|refine v8 ?_|refine Sp.mk ?_ ?_|refine vS ?_|refine vR ?_|refine vB ?_|refine br_nt ?_|refine br_tt ?_|refine br_ff ?_|refine vP ?_|refine vQ ?_|refine vT ?_|refine vF ?_|refine br_and ?_|refine br_or ?_|refine br_d (fun _=>?_) fun _=>?_|refine vM (fun _=>?_) fun _=>?_)
  all_goals exact h
def npPost (x : Pd) (K : AV → Prop) : Prop := ∀ (y : Place) (ok : Bool), (ok = true → y = madeP x.x x.a) → (ok = false → madeP x.x x.a = default) → K (.tup [enPl y, .bool ok])
def C262 : List AV → (AV → Prop) → Prop := con (X := Pd) (fun x => [enPl x.x, ded x.a]) (fun x => placeI x.x ∧ placeOk x.x ∧ dedI x.a) npPost
theorem F262 : FF 115 C262 := by
 refine fitXE [(140, C266)] (by simp only [List.mem_cons, List.not_mem_nil, or_false]; rintro _ rfl; exact F266) [(71, C157g), (141, C267)] (by simp only [List.mem_cons, List.not_mem_nil, or_false]; rintro _ (rfl | rfl) <;> first | exact F157g | exact F267) Tryz.f115 ⟨rfl, by decide +kernel, by decide +kernel⟩ (fun _ _ _ hk h y ok h1 h2 => hk _ (h y ok h1 h2)) ?_
 rintro ⟨⟨p, bs, rs⟩, ⟨k, a, b, w⟩⟩ K ⟨hI, hO, h1, h2, h3, h4⟩ h
 refine ⟨Nat.le_of_ble_eq_true rfl, ?_⟩
 have hs1 : rs.length ≤ 4 := hO.2.1.2
 have hs2 : bs.length ≤ 4 := hO.1.2.1
 unfold npPost at h
 dsimp only [ded, encD, enPl, plC] at h h1 h2 h3 h4 ⊢
 repeat' ((conv=>whnf);first|refine vA ?_|with_reducible first|refine v8 ?_|refine Sp.mk ?_ ?_|refine vS ?_|refine vR ?_|refine vB ?_|refine br_nt ?_|refine br_tt ?_|refine br_ff ?_|refine vP ?_|refine vQ ?_|refine vT ?_|refine vF ?_|refine br_and ?_|refine br_or ?_|refine br_d (fun _=>?_) fun _=>?_|refine vM (fun _=>?_) fun _=>?_)
 refine ⟨_, _, [], [], rfl, ?_, ?_, ⟨p, bs, rs⟩, rfl, rfl, ⟨by dsimp only; omega, by dsimp only; omega⟩, ?_⟩
 ·repeat' ((conv=>whnf);first|with_reducible exact True.intro|exact vW|with_reducible refine And.intro ?_ ?_)
 ·repeat' ((conv=>whnf);first|with_reducible exact True.intro|exact vW|with_reducible refine And.intro ?_ ?_)
 dsimp only [plG, plO]
 have y1 := ext_sym (ext_push (enc := encI) (d := 0) (l := bs) (x := a) (g := fun i => (fun i => [[AV.int .i64 a]].getD i [.int .i64 0]) (0 + i)) rfl)
 have y2 := ext_sym (ext_push (enc := encS) (d := ⟨#[]⟩) (l := rs) (x := w) (g := fun i => (fun i => [[AV.str w]].getD i [.str ⟨#[]⟩]) (0 + i)) rfl)
 repeat' ((conv=>whnf);first|refine vA ?_|with_reducible first|refine v8 ?_|refine Sp.mk ?_ ?_|refine vS ?_|refine vR ?_|refine vB ?_|refine br_nt ?_|refine br_tt ?_|refine br_ff ?_|refine vP ?_|refine vQ ?_|refine vT ?_|refine vF ?_|refine br_and ?_|refine br_or ?_|refine br_d (fun _=>?_) fun _=>?_|refine vM (fun _=>?_) fun _=>?_)
 ·rename_i q1
  refine Dr.mk ⟨(.rd 0 (.rd 1 (.rd 2 (.rd 3 (.rd 4 (.rd 5 (.rd 6 (.rd 7 (.rd 8 (.ef 9 (.rd 10 .dn) .no)))))))))), by decide +kernel, ?_⟩
  repeat' ((conv=>whnf);first|refine vA ?_|with_reducible first|refine v8 ?_|refine Sp.mk ?_ ?_|refine vS ?_|refine vR ?_|refine vB ?_|refine br_nt ?_|refine br_tt ?_|refine br_ff ?_|refine vP ?_|refine vQ ?_|refine vT ?_|refine vF ?_|refine br_and ?_|refine br_or ?_|refine br_d (fun _=>?_) fun _=>?_|refine vM (fun _=>?_) fun _=>?_)
  ·rename_i q2
   by_cases hw : w = ⟨#[]⟩
   ·rw [decide_eq_true hw]
    refine ⟨_, ?_, h ⟨p,bs++[a],rs⟩ true (fun q => (made_0 (x := ⟨p,bs,rs⟩) q1 q2 hw).symm) (fun q => (by cases q))⟩
    repeat' ((conv=>whnf);first|with_reducible exact True.intro|exact vW|with_reducible refine And.intro ?_ ?_)
    all_goals first | exact Chk.mk ⟨rfl, fun i _ => by dsimp only; rw [Nat.zero_add]⟩ | exact Chk.mk y1
   ·rw [decide_eq_false hw]
    refine ⟨_, ?_, h ⟨p,bs++[a],rs⟩ false (fun q => (by cases q)) (fun q => (made_0n q1 fun g => hw g.2))⟩
    repeat' ((conv=>whnf);first|with_reducible exact True.intro|exact vW|with_reducible refine And.intro ?_ ?_)
    all_goals first | exact Chk.mk ⟨rfl, fun i _ => by dsimp only; rw [Nat.zero_add]⟩ | exact Chk.mk y1
  ·rename_i q2
   refine ⟨_, ?_, h ⟨p,bs++[a],rs⟩ false (fun q => (by cases q)) (fun q => (made_0n q1 fun g => q2 g.1))⟩
   repeat' ((conv=>whnf);first|with_reducible exact True.intro|exact vW|with_reducible refine And.intro ?_ ?_)
   all_goals first | exact Chk.mk ⟨rfl, fun i _ => by dsimp only; rw [Nat.zero_add]⟩ | exact Chk.mk y1
 ·rename_i q0 q1
  refine Dr.mk ⟨(.rd 0 (.rd 1 (.rd 2 (.rd 3 (.rd 4 (.rd 5 (.rd 6 (.rd 7 (.rd 8 (.ef 9 (.rd 10 .dn) .no)))))))))), by decide +kernel, ?_⟩
  repeat' ((conv=>whnf);first|refine vA ?_|with_reducible first|refine v8 ?_|refine Sp.mk ?_ ?_|refine vS ?_|refine vR ?_|refine vB ?_|refine br_nt ?_|refine br_tt ?_|refine br_ff ?_|refine vP ?_|refine vQ ?_|refine vT ?_|refine vF ?_|refine br_and ?_|refine br_or ?_|refine br_d (fun _=>?_) fun _=>?_|refine vM (fun _=>?_) fun _=>?_)
  ·rename_i q2
   by_cases hb : b = 0
   ·rw [decide_eq_true hb]
    refine ⟨_, ?_, h ⟨p,bs,rs++[w]⟩ true (fun q => (made_1 (x := ⟨p,bs,rs⟩) q1 q2 hb).symm) (fun q => (by cases q))⟩
    repeat' ((conv=>whnf);first|with_reducible exact True.intro|exact vW|with_reducible refine And.intro ?_ ?_)
    all_goals first | exact Chk.mk ⟨rfl, fun i _ => by dsimp only; rw [Nat.zero_add]⟩ | exact Chk.mk y2
   ·rw [decide_eq_false hb]
    refine ⟨_, ?_, h ⟨p,bs,rs++[w]⟩ false (fun q => (by cases q)) (fun q => (made_1n q1 fun g => hb g.2))⟩
    repeat' ((conv=>whnf);first|with_reducible exact True.intro|exact vW|with_reducible refine And.intro ?_ ?_)
    all_goals first | exact Chk.mk ⟨rfl, fun i _ => by dsimp only; rw [Nat.zero_add]⟩ | exact Chk.mk y2
  ·rename_i q2
   refine ⟨_, ?_, h ⟨p,bs,rs++[w]⟩ false (fun q => (by cases q)) (fun q => (made_1n q1 fun g => q2 g.1))⟩
   repeat' ((conv=>whnf);first|with_reducible exact True.intro|exact vW|with_reducible refine And.intro ?_ ?_)
   all_goals first | exact Chk.mk ⟨rfl, fun i _ => by dsimp only; rw [Nat.zero_add]⟩ | exact Chk.mk y2
 ·rename_i q0 q1 q2
  refine ⟨⟨⟨p, bs, rs⟩, a, b⟩, ?_, ⟨hI, hO, h2, h3⟩, ?_⟩
  ·repeat' ((conv=>whnf);first|with_reducible exact True.intro|exact vW|with_reducible refine And.intro ?_ ?_)
   all_goals exact Chk.mk ⟨rfl, fun i _ => by dsimp only; rw [Nat.zero_add]⟩
  dsimp only
  cases hc : consR ⟨p, bs, rs⟩ a b
  ·repeat' ((conv=>whnf);first|refine vA ?_|with_reducible first|refine v8 ?_|refine Sp.mk ?_ ?_|refine vS ?_|refine vR ?_|refine vB ?_|refine br_nt ?_|refine br_tt ?_|refine br_ff ?_|refine vP ?_|refine vQ ?_|refine vT ?_|refine vF ?_|refine br_and ?_|refine br_or ?_|refine br_d (fun _=>?_) fun _=>?_|refine vM (fun _=>?_) fun _=>?_)
   refine ⟨_, ?_, h ⟨p,bs,rs⟩ false (fun q => (by cases q)) (fun q => (made_2n q2 hc))⟩
   repeat' ((conv=>whnf);first|with_reducible exact True.intro|exact vW|with_reducible refine And.intro ?_ ?_)
   all_goals first | exact Chk.mk ⟨rfl, fun i _ => by dsimp only; rw [Nat.zero_add]⟩ | exact Chk.mk y2
  ·have hr := consR_in hc
   dsimp only at hr
   have y3 := ext_set (x := w) hr.2
   repeat' ((conv=>whnf);first|refine vA ?_|with_reducible first|refine v8 ?_|refine Sp.mk ?_ ?_|refine vS ?_|refine vR ?_|refine vB ?_|refine br_nt ?_|refine br_tt ?_|refine br_ff ?_|refine vP ?_|refine vQ ?_|refine vT ?_|refine vF ?_|refine br_and ?_|refine br_or ?_|refine br_d (fun _=>?_) fun _=>?_|refine vM (fun _=>?_) fun _=>?_)
   refine ⟨_, ?_, h ⟨p,bs,rs.set a.toNat w⟩ true (fun q => (made_2 (x := ⟨p,bs,rs⟩) q2 hc).symm) (fun q => (by cases q))⟩
   repeat' ((conv=>whnf);first|with_reducible exact True.intro|exact vW|with_reducible refine And.intro ?_ ?_)
   all_goals first | exact Chk.mk ⟨rfl, fun i _ => by dsimp only; rw [Nat.zero_add]⟩ | exact Chk.mk y3
 ·rename_i q0 q1 q2 q3
  refine ⟨⟨⟨p, bs, rs⟩, a, b⟩, ?_, ⟨hI, hO, h2, h3⟩, ?_⟩
  ·repeat' ((conv=>whnf);first|with_reducible exact True.intro|exact vW|with_reducible refine And.intro ?_ ?_)
   all_goals exact Chk.mk ⟨rfl, fun i _ => by dsimp only; rw [Nat.zero_add]⟩
  dsimp only
  cases hc : consR ⟨p, bs, rs⟩ a b
  ·repeat' ((conv=>whnf);first|refine vA ?_|with_reducible first|refine v8 ?_|refine Sp.mk ?_ ?_|refine vS ?_|refine vR ?_|refine vB ?_|refine br_nt ?_|refine br_tt ?_|refine br_ff ?_|refine vP ?_|refine vQ ?_|refine vT ?_|refine vF ?_|refine br_and ?_|refine br_or ?_|refine br_d (fun _=>?_) fun _=>?_|refine vM (fun _=>?_) fun _=>?_)
   refine ⟨_, ?_, h ⟨p,bs,rs⟩ false (fun q => (by cases q)) (fun q => (made_3n q3 fun g => by rw [hc] at g; cases g.2))⟩
   repeat' ((conv=>whnf);first|with_reducible exact True.intro|exact vW|with_reducible refine And.intro ?_ ?_)
   all_goals first | exact Chk.mk ⟨rfl, fun i _ => by dsimp only; rw [Nat.zero_add]⟩ | exact Chk.mk y2
  ·have hr := consR_in hc
   dsimp only at hr
   repeat' ((conv=>whnf);first|refine vA ?_|with_reducible first|refine v8 ?_|refine Sp.mk ?_ ?_|refine vS ?_|refine vR ?_|refine vB ?_|refine br_nt ?_|refine br_tt ?_|refine br_ff ?_|refine vP ?_|refine vQ ?_|refine vT ?_|refine vF ?_|refine br_and ?_|refine br_or ?_|refine br_d (fun _=>?_) fun _=>?_|refine vM (fun _=>?_) fun _=>?_)
   refine ⟨_, _, [4], [], rfl, ?_, ?_, ⟨rs, a.toNat⟩, rfl, rfl, ⟨hr.2⟩, ?_⟩
   ·repeat' ((conv=>whnf);first|with_reducible exact True.intro|exact vW|with_reducible refine And.intro ?_ ?_)
    all_goals exact Chk.mk (by dsimp only; omega)
   ·repeat' ((conv=>whnf);first|with_reducible exact True.intro|exact vW|with_reducible refine And.intro ?_ ?_)
   dsimp only
   have y4 : rs.length - 1 = (rs.take a.toNat ++ rs.drop (a.toNat + 1)).length ∧ ∀ i, i < rs.length - 1 → (fun i => encS ((rs.take a.toNat ++ rs.drop (a.toNat + 1)).getD i ⟨#[]⟩)) (0 + i) = encS ((rs.take a.toNat ++ rs.drop (a.toNat + 1)).getD i ⟨#[]⟩) := ⟨by rw [List.length_append, List.length_take, List.length_drop]; omega, fun i _ => by dsimp only; rw [Nat.zero_add]⟩
   repeat' ((conv=>whnf);first|refine vA ?_|with_reducible first|refine v8 ?_|refine Sp.mk ?_ ?_|refine vS ?_|refine vR ?_|refine vB ?_|refine br_nt ?_|refine br_tt ?_|refine br_ff ?_|refine vP ?_|refine vQ ?_|refine vT ?_|refine vF ?_|refine br_and ?_|refine br_or ?_|refine br_d (fun _=>?_) fun _=>?_|refine vM (fun _=>?_) fun _=>?_)
   refine Dr.mk ⟨(.rd 0 (.rd 1 (.rd 2 (.rd 3 (.ef 4 (.rd 5 .dn) .no))))), by decide +kernel, ?_⟩
   repeat' ((conv=>whnf);first|refine vA ?_|with_reducible first|refine v8 ?_|refine Sp.mk ?_ ?_|refine vS ?_|refine vR ?_|refine vB ?_|refine br_nt ?_|refine br_tt ?_|refine br_ff ?_|refine vP ?_|refine vQ ?_|refine vT ?_|refine vF ?_|refine br_and ?_|refine br_or ?_|refine br_d (fun _=>?_) fun _=>?_|refine vM (fun _=>?_) fun _=>?_)
   by_cases hw : w = ⟨#[]⟩
   ·rw [decide_eq_true hw]
    refine ⟨_, ?_, h ⟨p,bs,rs.take a.toNat ++ rs.drop (a.toNat + 1)⟩ true (fun q => (made_3 (x := ⟨p,bs,rs⟩) q3 hw hc).symm) (fun q => (by cases q))⟩
    repeat' ((conv=>whnf);first|with_reducible exact True.intro|exact vW|with_reducible refine And.intro ?_ ?_)
    all_goals first | exact Chk.mk ⟨rfl, fun i _ => by dsimp only; rw [Nat.zero_add]⟩ | exact Chk.mk y4
   ·rw [decide_eq_false hw]
    refine ⟨_, ?_, h ⟨p,bs,rs.take a.toNat ++ rs.drop (a.toNat + 1)⟩ false (fun q => (by cases q)) (fun q => (made_3n (x := ⟨p,bs,rs⟩) q3 fun g => hw g.1))⟩
    repeat' ((conv=>whnf);first|with_reducible exact True.intro|exact vW|with_reducible refine And.intro ?_ ?_)
    all_goals first | exact Chk.mk ⟨rfl, fun i _ => by dsimp only; rw [Nat.zero_add]⟩ | exact Chk.mk y4
 ·rename_i q0 q1 q2 q3
  refine ⟨_, ?_, h ⟨p,bs,rs⟩ false (fun q => (by cases q)) (fun q => (made_n q0 q1 q2 q3))⟩
  repeat' ((conv=>whnf);first|with_reducible exact True.intro|exact vW|with_reducible refine And.intro ?_ ?_)
  all_goals first | exact Chk.mk ⟨rfl, fun i _ => by dsimp only; rw [Nat.zero_add]⟩ | exact Chk.mk y1
end Go.Proofs.YtkafoolhbflfkaaGreatDoor.Vc
end
section
/- Part EH: results that are told anew by what they mean. -/
namespace Go.Proofs.YtkafoolhbflfkaaGreatDoor.Vc
open Go.Proofs
set_option maxRecDepth 10000
end Go.Proofs.YtkafoolhbflfkaaGreatDoor.Vc
end
section
/- Part XK: a deed at a desk, by the implementation. -/
namespace Go.Proofs.YtkafoolhbflfkaaGreatDoor.Vc
open Go.Proofs
set_option maxRecDepth 10000
set_option maxHeartbeats 4000000
def C261 : GC := conG (X := Desk) (fun d => [enDe d]) (fun _ => []) shortD fun d K => K (deG d) [psO d.past]
theorem F261 : GG 114 C261 := by
 refine fitG [(71, C157)] (by simp only [List.mem_cons, List.not_mem_nil, or_false]; rintro _ rfl <;> first | exact F157) [] (by simp) Tryz.f114 ⟨rfl, by decide +kernel, by decide +kernel⟩ (by intro x K K2 hk h; (try dsimp only at h ⊢); intros; apply hk; first | exact h | (apply h <;> assumption)) ?_
 rintro ⟨⟨p, bs, rs⟩, l⟩ K ⟨h1, h2, h3⟩ h
 refine ⟨Nat.le_of_ble_eq_true rfl, ?_⟩
 unfold deG psO at h
 dsimp only [enDe, deC] at h h1 h2 h3 ⊢
 repeat' ((conv=>whnf);first|refine vA ?_|with_reducible first|refine v8 ?_|refine Sp.mk ?_ ?_|refine vS ?_|refine vR ?_|refine vB ?_|refine br_nt ?_|refine br_tt ?_|refine br_ff ?_|refine vP ?_|refine vQ ?_|refine vT ?_|refine vF ?_|refine br_and ?_|refine br_or ?_|refine br_d (fun _=>?_) fun _=>?_|refine vM (fun _=>?_) fun _=>?_)
 refine ⟨⟨p, bs, rs⟩, ?_, ⟨h1⟩, ?_⟩
 ·repeat' ((conv=>whnf);first|with_reducible exact True.intro|exact vW|with_reducible refine And.intro ?_ ?_)
 dsimp only [enPl, plC]
 repeat' ((conv=>whnf);first|refine vA ?_|with_reducible first|refine v8 ?_|refine Sp.mk ?_ ?_|refine vS ?_|refine vR ?_|refine vB ?_|refine br_nt ?_|refine br_tt ?_|refine br_ff ?_|refine vP ?_|refine vQ ?_|refine vT ?_|refine vF ?_|refine br_and ?_|refine br_or ?_|refine br_d (fun _=>?_) fun _=>?_|refine vM (fun _=>?_) fun _=>?_)
 refine Lp.mk ⟨Nat, fun i => [(1, .ptr 0 0), (2, .ptr 1 0), (3, .ptr 2 0), (11, slP l), (12, .int .i64 l.length), (13, .int .i64 i)], fun i => [.box (deC ⟨⟨p, bs, rs⟩, l⟩), .box [.int .i64 0, .nils, .nils, .nils], .box [.int .i64 p, slI bs, slS rs, .row 3 3 0 (l.take i).length], psO (l.take i)], fun i => i ≤ l.length, fun i => l.length - i, ⟨0, Nat.zero_le _, ⟨⟨[some 0, some 1, some 2, none], [], rfl, rfl, ?_, ?_⟩⟩⟩, ?_⟩
 ·repeat' ((conv=>whnf);first|with_reducible exact True.intro|exact vW|with_reducible refine And.intro ?_ ?_)
 ·repeat' ((conv=>whnf);first|with_reducible exact True.intro|exact vW|with_reducible refine And.intro ?_ ?_)
 intro i i1
 dsimp only [deC, psO]
 have hti : (l.take i).length ≤ 100000 := by rw [List.length_take]; omega
 repeat' ((conv=>whnf);first|refine vA ?_|with_reducible first|refine v8 ?_|refine Sp.mk ?_ ?_|refine vS ?_|refine vR ?_|refine vB ?_|refine br_nt ?_|refine br_tt ?_|refine br_ff ?_|refine vP ?_|refine vQ ?_|refine vT ?_|refine vF ?_|refine br_and ?_|refine br_or ?_|refine br_d (fun _=>?_) fun _=>?_|refine vM (fun _=>?_) fun _=>?_)
 ·rename_i hi
  have hi : i < l.length := by omega
  have hsn : l.take (i + 1) = l.take i ++ [l.getD i default] := take_succ' default hi
  refine Dr.mk ⟨(.rd 0 (.rd 1 (.rd 2 (.ef 3 (.ef 4 (.ef 5 (.rd 6 (.ef 7 .dn .no)) .no) .no) .no)))), by decide +kernel, ?_⟩
  repeat' ((conv=>whnf);first|refine vA ?_|with_reducible first|refine v8 ?_|refine Sp.mk ?_ ?_|refine vS ?_|refine vR ?_|refine vB ?_|refine br_nt ?_|refine br_tt ?_|refine br_ff ?_|refine vP ?_|refine vQ ?_|refine vT ?_|refine vF ?_|refine br_and ?_|refine br_or ?_|refine br_d (fun _=>?_) fun _=>?_|refine vM (fun _=>?_) fun _=>?_)
  all_goals
   refine ⟨l.getD i default, ?_, ⟨h3 _ (getD_mem' hi)⟩, ?_⟩
   ·repeat' ((conv=>whnf);first|with_reducible exact True.intro|exact vW|with_reducible refine And.intro ?_ ?_)
   dsimp only [enPl, plC]
   repeat' ((conv=>whnf);first|refine vA ?_|with_reducible first|refine v8 ?_|refine Sp.mk ?_ ?_|refine vS ?_|refine vR ?_|refine vB ?_|refine br_nt ?_|refine br_tt ?_|refine br_ff ?_|refine vP ?_|refine vQ ?_|refine vT ?_|refine vF ?_|refine br_and ?_|refine br_or ?_|refine br_d (fun _=>?_) fun _=>?_|refine vM (fun _=>?_) fun _=>?_)
  all_goals
   refine ⟨i + 1, by omega, by omega, ?_⟩
   first | (refine ⟨⟨[some 0, some 1, some 2, some 6], [], rfl, rfl, ?_, ?_⟩⟩ <;> (repeat' ((conv=>whnf);first|with_reducible exact True.intro|exact vW|with_reducible refine And.intro ?_ ?_ | exact Chk.mk ⟨rfl, by rw [hsn, List.length_append]; rfl⟩ | exact Chk.mk (by rw [hsn]; exact ext_push (enc := plC) (d := default) (l := l.take i) (x := l.getD i default) rfl))) <;> fail) | (refine ⟨⟨[some 0, some 1, some 2, some 5], [], rfl, rfl, ?_, ?_⟩⟩ <;> (repeat' ((conv=>whnf);first|with_reducible exact True.intro|exact vW|with_reducible refine And.intro ?_ ?_ | exact Chk.mk ⟨rfl, by rw [hsn, List.length_append]; rfl⟩ | exact Chk.mk (by rw [hsn]; exact ext_push (enc := plC) (d := default) (l := l.take i) (x := l.getD i default) rfl))) <;> fail) | (refine ⟨⟨[some 0, some 1, some 2, some 4], [], rfl, rfl, ?_, ?_⟩⟩ <;> (repeat' ((conv=>whnf);first|with_reducible exact True.intro|exact vW|with_reducible refine And.intro ?_ ?_ | exact Chk.mk ⟨rfl, by rw [hsn, List.length_append]; rfl⟩ | exact Chk.mk (by rw [hsn]; exact ext_push (enc := plC) (d := default) (l := l.take i) (x := l.getD i default) rfl))) <;> fail)
 ·rename_i hi
  rw [List.take_of_length_le (by omega)]
  repeat' ((conv=>whnf);first|refine vA ?_|with_reducible first|refine v8 ?_|refine Sp.mk ?_ ?_|refine vS ?_|refine vR ?_|refine vB ?_|refine br_nt ?_|refine br_tt ?_|refine br_ff ?_|refine vP ?_|refine vQ ?_|refine vT ?_|refine vF ?_|refine br_and ?_|refine br_or ?_|refine br_d (fun _=>?_) fun _=>?_|refine vM (fun _=>?_) fun _=>?_)
  refine ⟨_, _, [some 3], [], rfl, rfl, ?_, ?_, h⟩
  ·repeat' ((conv=>whnf);first|with_reducible exact True.intro|exact vW|with_reducible refine And.intro ?_ ?_)
  ·repeat' ((conv=>whnf);first|with_reducible exact True.intro|exact vW|with_reducible refine And.intro ?_ ?_)
theorem doD_back0 {d : Desk} (h : d.past.length = 0) : doD d backD = none := by
 unfold doD
 rw [if_neg (by omega), show madeP d.now backD = default from made_n (by decide) (by decide) (by decide) (by decide), if_neg fun q => no_place q.1]
theorem doD_back1 {d : Desk} (h : 0 < d.past.length) : doD d backD = some ⟨d.past.getD (d.past.length - 1) default, d.past.take (d.past.length - 1)⟩ := if_pos ⟨rfl, h⟩
theorem doD_bad {d : Desk} {a : Dd} (ha : a ≠ backD) (h : ¬ placeOk (madeP d.now a)) : doD d a = none := by
 unfold doD
 rw [if_neg fun q => ha q.1, if_neg fun q => h q.1]
theorem doD_same {d : Desk} {a : Dd} (ha : a ≠ backD) (h : madeP d.now a = d.now) : doD d a = none := by
 unfold doD
 rw [if_neg fun q => ha q.1, h, if_neg fun q => q.2 rfl]
theorem doD_new {d : Desk} {a : Dd} (ha : a ≠ backD) (hO : placeOk d.now) (h : placeOk (madeP d.now a)) (hn : madeP d.now a ≠ d.now) : doD d a = some ⟨madeP d.now a, pushP d.past d.now⟩ := by
 unfold doD
 rw [if_neg fun q => ha q.1, if_pos ⟨h, fun e => hn (plT_inj h hO (by unfold ptext at e; rwa [if_pos h, if_pos hO] at e))⟩]
theorem takeP_get {L : List Place} {n i : Nat} (h : i < n) : (L.take n).getD i default = L.getD i default := by
 rw [List.getD_eq_getElem?_getD, List.getD_eq_getElem?_getD, List.getElem?_take_of_lt h]
theorem takeP_ext {l : List Place} {n : Nat} (hn : n ≤ l.length) : (l.take n).length = n - Int.toNat 0 ∧ ∀ i, i < (l.take n).length → plC ((l.take n).getD i default) = plC (l.getD (Int.toNat 0 + i) default) := ⟨by rw [List.length_take]; show _ = n - 0; omega, fun i hi => by
 rw [List.length_take] at hi
 rw [takeP_get (by omega)]
 show _ = plC (l.getD (0 + i) default)
 rw [Nat.zero_add]⟩
theorem pushP_ext {l : List Place} {x : Place} {g : Nat → List AV} (hg : g 0 = plC x) (h : l.length + 1 > 8) : (pushP l x).length = ((l.length + 1 : Nat) : Int).toNat - Int.toNat 1 ∧ ∀ i, i < (pushP l x).length → plC ((pushP l x).getD i default) = appF l.length (fun i => plC (l.getD i default)) g (0 + Int.toNat 1 + i) := by
 have e : pushP l x = (l ++ [x]).drop 1 := if_pos (by rw [List.length_append]; exact h)
 have := ext_dropV (enc := plC) (d := default) (l := l) (x := x) (g := g) hg
 rw [e]
 exact ⟨this.1.symm, fun i hi => (this.2 i (by rw [this.1]; exact hi)).symm⟩
theorem pushP_ext' {l : List Place} {x : Place} {g : Nat → List AV} (hg : g 0 = plC x) (h : ¬ l.length + 1 > 8) : (pushP l x).length = l.length + 1 ∧ ∀ i, i < (pushP l x).length → plC ((pushP l x).getD i default) = appF l.length (fun i => plC (l.getD i default)) g (0 + i) := by
 have e : pushP l x = l ++ [x] := if_neg (by rw [List.length_append]; exact h)
 have := ext_push (enc := plC) (d := default) (l := l) (x := x) (g := g) hg
 rw [e]
 exact ⟨this.1, fun i hi => by rw [Nat.zero_add]; exact this.2 i hi⟩
def C254 : List AV → (AV → Prop) → Prop := con (X := De) (fun x => [enDe x.d, ded x.a]) (fun x => deskI x.d ∧ deskOk x.d ∧ dedI x.a) fun x K => K (.tup [enDe ((doD x.d x.a).getD x.d), .bool (doD x.d x.a).isSome])
theorem F254 : FF 77 C254 := by
 refine fitXE [(115, C262), (66, C152), (116, C263)] (by simp only [List.mem_cons, List.not_mem_nil, or_false]; rintro _ (rfl | rfl | rfl) <;> first | exact F262 | exact F152 | exact F263) [(114, C261)] (by simp only [List.mem_cons, List.not_mem_nil, or_false]; rintro _ rfl; exact F261) Tryz.f77 ⟨rfl, by decide +kernel, by decide +kernel⟩ (fun _ _ _ hk h => hk _ h) ?_
 rintro ⟨⟨⟨p, bs, rs⟩, l⟩, ⟨k, a, b, w⟩⟩ K ⟨hI, hO, ha⟩ h
 refine ⟨Nat.le_of_ble_eq_true rfl, ?_⟩
 have hs := deskOk_short hO
 have hs2 := hO.2.1
 dsimp only [enDe, deC, ded, encD] at hI ha hs2 ⊢
 repeat' ((conv=>whnf);first|refine vA ?_|with_reducible first|refine v8 ?_|refine Sp.mk ?_ ?_|refine vS ?_|refine vR ?_|refine vB ?_|refine br_nt ?_|refine br_tt ?_|refine br_ff ?_|refine vP ?_|refine vQ ?_|refine vT ?_|refine vF ?_|refine br_and ?_|refine br_or ?_|refine br_d (fun _=>?_) fun _=>?_|refine vM (fun _=>?_) fun _=>?_)
 refine ⟨_, _, [], [], rfl, ?_, ?_, ⟨⟨p, bs, rs⟩, l⟩, rfl, rfl, ⟨hs⟩, ?_⟩
 ·repeat' ((conv=>whnf);first|with_reducible exact True.intro|exact vW|with_reducible refine And.intro ?_ ?_)
 ·repeat' ((conv=>whnf);first|with_reducible exact True.intro|exact vW|with_reducible refine And.intro ?_ ?_)
 dsimp only [deG, psO]
 replace h : K (.tup [enDe ((doD ⟨⟨p, bs, rs⟩, l⟩ ⟨k, a, b, w⟩).getD ⟨⟨p, bs, rs⟩, l⟩), .bool (doD ⟨⟨p, bs, rs⟩, l⟩ ⟨k, a, b, w⟩).isSome]) := h
 repeat' ((conv=>whnf);first|with_reducible refine wk_at 4 ?_|with_reducible refine wk_at1 4 ?_|with_reducible refine wk_at2 4 ?_|refine vA ?_|with_reducible first|refine v8 ?_|refine Sp.mk ?_ ?_|refine vS ?_|refine vR ?_|refine vB ?_|refine br_nt ?_|refine br_tt ?_|refine br_ff ?_|refine vP ?_|refine vQ ?_|refine vT ?_|refine vF ?_|refine br_and ?_|refine br_or ?_|refine br_d (fun _=>?_) fun _=>?_|refine vM (fun _=>?_) fun _=>?_)
 ·rename_i q1 q2 q3 q4
  obtain rfl : k = 4 := q1
  obtain rfl : a = 0 := q2
  obtain rfl : b = 0 := q3
  obtain rfl : w = ⟨#[]⟩ := q4
  refine ⟨Wk.go [(4, .ptr 0 0), (6, .ptr 1 0), (7, .int .i64 ((l.length : Int) - 1))] [.box [.int .i64 0, .nils, .nils, .nils], .box (deC ⟨⟨p, bs, rs⟩, l⟩)] ⟨⟨[some 2, some 4], [3], rfl, rfl, ?_, ?_⟩⟩ ?_⟩
  ·repeat' ((conv=>whnf);first|with_reducible exact True.intro|exact vW|with_reducible refine And.intro ?_ ?_)
  ·repeat' ((conv=>whnf);first|with_reducible exact True.intro|exact vW|with_reducible refine And.intro ?_ ?_)
   all_goals exact Chk.mk ⟨rfl, by omega, fun i _ => by dsimp only; (try rw [Nat.zero_add]); try rfl⟩
  dsimp only [deC]
  by_cases hl : l.length = 0
  ·rw [show doD ⟨⟨p, bs, rs⟩, l⟩ ⟨4, 0, 0, ⟨#[]⟩⟩ = none from doD_back0 hl] at h
   repeat' ((conv=>whnf);first|refine vA ?_|with_reducible first|refine v8 ?_|refine Sp.mk ?_ ?_|refine vS ?_|refine vR ?_|refine vB ?_|refine br_nt ?_|refine br_tt ?_|refine br_ff ?_|refine vP ?_|refine vQ ?_|refine vT ?_|refine vF ?_|refine br_and ?_|refine br_or ?_|refine br_d (fun _=>?_) fun _=>?_|refine vM (fun _=>?_) fun _=>?_)
   refine ⟨_, ?_, h⟩
   repeat' ((conv=>whnf);first|with_reducible exact True.intro|exact vW|with_reducible refine And.intro ?_ ?_)
  ·have hlp : 0 < l.length := by omega
   have hm : l.getD (l.length - 1) default ∈ l := getD_mem' (by omega)
   rw [show doD ⟨⟨p, bs, rs⟩, l⟩ ⟨4, 0, 0, ⟨#[]⟩⟩ = some _ from doD_back1 hlp] at h
   have e1 : ((l.length : Int) - 1).toNat = l.length - 1 := by omega
   repeat' ((conv=>whnf);first|refine vA ?_|with_reducible first|refine v8 ?_|refine Sp.mk ?_ ?_|refine vS ?_|refine vR ?_|refine vB ?_|refine br_nt ?_|refine br_tt ?_|refine br_ff ?_|refine vP ?_|refine vQ ?_|refine vT ?_|refine vF ?_|refine br_and ?_|refine br_or ?_|refine br_d (fun _=>?_) fun _=>?_|refine vM (fun _=>?_) fun _=>?_)
   refine Dr.mk ⟨(.rd 0 (.rd 1 (.rd 2 (.rd 3 (.rd 4 (.rd 5 (.rd 6 (.rd 7 (.rd 8 (.rd 9 (.ef 10 (.ef 11 (.rd 12 .dn) .no) .no))))))))))), by decide +kernel, ?_⟩
   repeat' ((conv=>whnf);first|refine vA ?_|with_reducible first|refine v8 ?_|refine Sp.mk ?_ ?_|refine vS ?_|refine vR ?_|refine vB ?_|refine br_nt ?_|refine br_tt ?_|refine br_ff ?_|refine vP ?_|refine vQ ?_|refine vT ?_|refine vF ?_|refine br_and ?_|refine br_or ?_|refine br_d (fun _=>?_) fun _=>?_|refine vM (fun _=>?_) fun _=>?_)
   refine ⟨_, _, [], [], rfl, ?_, ?_, ⟨l.getD (l.length - 1) default, l.take (l.length - 1)⟩, rfl, rfl, ⟨⟨hs.2.2 _ hm, by dsimp only; rw [List.length_take]; omega, fun x hx => hs.2.2 x (List.mem_of_mem_take hx)⟩⟩, ?_⟩
   ·rw [e1]
    repeat' ((conv=>whnf);first|with_reducible exact True.intro|exact vW|with_reducible refine And.intro ?_ ?_)
    all_goals exact Chk.mk (takeP_ext (by omega))
   ·repeat' ((conv=>whnf);first|with_reducible exact True.intro|exact vW|with_reducible refine And.intro ?_ ?_)
   dsimp only [deG, psO]
   repeat' ((conv=>whnf);first|refine vA ?_|with_reducible first|refine v8 ?_|refine Sp.mk ?_ ?_|refine vS ?_|refine vR ?_|refine vB ?_|refine br_nt ?_|refine br_tt ?_|refine br_ff ?_|refine vP ?_|refine vQ ?_|refine vT ?_|refine vF ?_|refine br_and ?_|refine br_or ?_|refine br_d (fun _=>?_) fun _=>?_|refine vM (fun _=>?_) fun _=>?_)
   refine ⟨_, ?_, h⟩
   repeat' ((conv=>whnf);first|with_reducible exact True.intro|exact vW|with_reducible refine And.intro ?_ ?_)
   all_goals exact Chk.mk ⟨rfl, fun i _ => by dsimp only; (try rw [Nat.zero_add]); try rfl⟩
 all_goals
  have hnb : (⟨k, a, b, w⟩ : Dd) ≠ backD := by
   intro e
   have e3 := congrArg Dd.kind e
   have e4 := congrArg Dd.a e
   have e5 := congrArg Dd.b e
   have e6 := congrArg Dd.words e
   dsimp only [backD] at e3 e4 e5 e6
   first | omega | exact absurd e6 (by assumption)
  have hMI := madeP_I (a := ⟨k, a, b, w⟩) hI.1 hs.1 ha
  refine ⟨⟨⟨p, bs, rs⟩, ⟨k, a, b, w⟩⟩, ?_, ⟨hI.1, hO.1, ha⟩, ?_⟩
  ·repeat' ((conv=>whnf);first|with_reducible exact True.intro|exact vW|with_reducible refine And.intro ?_ ?_)
  intro y ok hy1 hy2
  dsimp only at hy1 hy2
  cases ok
  ·have hno : doD ⟨⟨p, bs, rs⟩, l⟩ ⟨k, a, b, w⟩ = none := doD_bad hnb (by dsimp only; rw [hy2 rfl]; exact no_place)
   rw [hno] at h
   obtain ⟨yp, yb, yr⟩ := y
   dsimp only [enPl, plC]
   repeat' ((conv=>whnf);first|refine vA ?_|with_reducible first|refine v8 ?_|refine Sp.mk ?_ ?_|refine vS ?_|refine vR ?_|refine vB ?_|refine br_nt ?_|refine br_tt ?_|refine br_ff ?_|refine vP ?_|refine vQ ?_|refine vT ?_|refine vF ?_|refine br_and ?_|refine br_or ?_|refine br_d (fun _=>?_) fun _=>?_|refine vM (fun _=>?_) fun _=>?_)
   refine ⟨_, ?_, h⟩
   repeat' ((conv=>whnf);first|with_reducible exact True.intro|exact vW|with_reducible refine And.intro ?_ ?_)
   all_goals exact Chk.mk ⟨rfl, fun i _ => by dsimp only; (try rw [Nat.zero_add]); try rfl⟩
  ·have hy := hy1 rfl
   rw [← hy] at hMI
   have eB := @doD_bad ⟨⟨p, bs, rs⟩, l⟩ ⟨k, a, b, w⟩ hnb
   have eS := @doD_same ⟨⟨p, bs, rs⟩, l⟩ ⟨k, a, b, w⟩ hnb
   have eN := @doD_new ⟨⟨p, bs, rs⟩, l⟩ ⟨k, a, b, w⟩ hnb hO.1
   dsimp only at eB eS eN
   rw [← hy] at eB eS eN
   obtain ⟨yp, yb, yr⟩ := y
   clear hy hy1 hy2
   dsimp only [enPl, plC]
   by_cases hp : placeOk ⟨yp, yb, yr⟩
   ·repeat' ((conv=>whnf);first|refine vA ?_|with_reducible first|refine v8 ?_|refine Sp.mk ?_ ?_|refine vS ?_|refine vR ?_|refine vB ?_|refine br_nt ?_|refine br_tt ?_|refine br_ff ?_|refine vP ?_|refine vQ ?_|refine vT ?_|refine vF ?_|refine br_and ?_|refine br_or ?_|refine br_d (fun _=>?_) fun _=>?_|refine vM (fun _=>?_) fun _=>?_)
    refine ⟨⟨yp, yb, yr⟩, ?_, ⟨hMI⟩, ?_⟩
    ·repeat' ((conv=>whnf);first|with_reducible exact True.intro|exact vW|with_reducible refine And.intro ?_ ?_)
    repeat' ((conv=>whnf);first|refine vA ?_|with_reducible first|refine v8 ?_|refine Sp.mk ?_ ?_|refine vS ?_|refine vR ?_|refine vB ?_|refine br_nt ?_|refine br_tt ?_|refine br_ff ?_|refine vP ?_|refine vQ ?_|refine vT ?_|refine vF ?_|refine br_and ?_|refine br_or ?_|refine br_d (fun _=>?_) fun _=>?_|refine vM (fun _=>?_) fun _=>?_)
    refine ⟨⟨⟨yp, yb, yr⟩, ⟨p, bs, rs⟩⟩, ?_, ⟨hMI.1.2, hMI.2.1⟩, ?_⟩
    ·repeat' ((conv=>whnf);first|with_reducible exact True.intro|exact vW|with_reducible refine And.intro ?_ ?_)
    intro same hsame
    dsimp only at hsame
    cases same
    ·have hne : (⟨yp, yb, yr⟩ : Place) ≠ ⟨p, bs, rs⟩ := fun e => by have := hsame.2 e; cases this
     rw [eN hp hne] at h
     have hpl : (pushP l ⟨p, bs, rs⟩).length ≤ 8 := pushP_len hs2
     have hpm := @pushP_mem l ⟨p, bs, rs⟩
     repeat' ((conv=>whnf);first|with_reducible refine wk_at 13 ?_|with_reducible refine wk_at1 13 ?_|with_reducible refine wk_at2 13 ?_|refine vA ?_|with_reducible first|refine v8 ?_|refine Sp.mk ?_ ?_|refine vS ?_|refine vR ?_|refine vB ?_|refine br_nt ?_|refine br_tt ?_|refine br_ff ?_|refine vP ?_|refine vQ ?_|refine vT ?_|refine vF ?_|refine br_and ?_|refine br_or ?_|refine br_d (fun _=>?_) fun _=>?_|refine vM (fun _=>?_) fun _=>?_)
     ·rename_i h8
      have hx := pushP_ext (l := l) (x := ⟨p, bs, rs⟩) (g := fun i => (fun i => [plC ⟨p, bs, rs⟩].getD i (lookT TT 39).z) (0 + i)) rfl (by omega)
      generalize pushP l ⟨p, bs, rs⟩ = M at hpl hpm hx h ⊢
      refine ⟨Wk.go [(4, .ptr 0 0), (8, .ptr 1 0), (10, slP M)] [.box [.int .i64 0, .nils, .nils, .nils], .box [.int .i64 yp, slI yb, slS yr]] ⟨⟨[some 2, some 5], [7], rfl, rfl, ?_, ?_⟩⟩ ?_⟩
      ·repeat' ((conv=>whnf);first|with_reducible exact True.intro|exact vW|with_reducible refine And.intro ?_ ?_)
       all_goals exact Chk.mk ⟨hx.1, by omega, hx.2⟩
      ·repeat' ((conv=>whnf);first|with_reducible exact True.intro|exact vW|with_reducible refine And.intro ?_ ?_)
      repeat' ((conv=>whnf);first|refine vA ?_|with_reducible first|refine v8 ?_|refine Sp.mk ?_ ?_|refine vS ?_|refine vR ?_|refine vB ?_|refine br_nt ?_|refine br_tt ?_|refine br_ff ?_|refine vP ?_|refine vQ ?_|refine vT ?_|refine vF ?_|refine br_and ?_|refine br_or ?_|refine br_d (fun _=>?_) fun _=>?_|refine vM (fun _=>?_) fun _=>?_)
      refine ⟨_, _, [], [], rfl, ?_, ?_, ⟨⟨yp, yb, yr⟩, M⟩, rfl, rfl, ⟨⟨placeOk_short hp, by dsimp only; omega, fun x hx => (hpm x hx).elim (hs.2.2 x) fun e => e ▸ hs.1⟩⟩, ?_⟩
      ·repeat' ((conv=>whnf);first|with_reducible exact True.intro|exact vW|with_reducible refine And.intro ?_ ?_)
      ·repeat' ((conv=>whnf);first|with_reducible exact True.intro|exact vW|with_reducible refine And.intro ?_ ?_)
      dsimp only [deG, psO]
      repeat' ((conv=>whnf);first|refine vA ?_|with_reducible first|refine v8 ?_|refine Sp.mk ?_ ?_|refine vS ?_|refine vR ?_|refine vB ?_|refine br_nt ?_|refine br_tt ?_|refine br_ff ?_|refine vP ?_|refine vQ ?_|refine vT ?_|refine vF ?_|refine br_and ?_|refine br_or ?_|refine br_d (fun _=>?_) fun _=>?_|refine vM (fun _=>?_) fun _=>?_)
      refine ⟨_, ?_, h⟩
      repeat' ((conv=>whnf);first|with_reducible exact True.intro|exact vW|with_reducible refine And.intro ?_ ?_)
      all_goals exact Chk.mk ⟨rfl, fun i _ => by dsimp only; (try rw [Nat.zero_add]); try rfl⟩
     ·rename_i h8
      have hx := pushP_ext' (l := l) (x := ⟨p, bs, rs⟩) (g := fun i => (fun i => [plC ⟨p, bs, rs⟩].getD i (lookT TT 39).z) (0 + i)) rfl (by omega)
      generalize pushP l ⟨p, bs, rs⟩ = M at hpl hpm hx h ⊢
      refine ⟨Wk.go [(4, .ptr 0 0), (8, .ptr 1 0), (10, slP M)] [.box [.int .i64 0, .nils, .nils, .nils], .box [.int .i64 yp, slI yb, slS yr]] ⟨⟨[some 2, some 5], [7], rfl, rfl, ?_, ?_⟩⟩ ?_⟩
      ·repeat' ((conv=>whnf);first|with_reducible exact True.intro|exact vW|with_reducible refine And.intro ?_ ?_)
       all_goals exact Chk.mk ⟨hx.1, by omega, hx.2⟩
      ·repeat' ((conv=>whnf);first|with_reducible exact True.intro|exact vW|with_reducible refine And.intro ?_ ?_)
      repeat' ((conv=>whnf);first|refine vA ?_|with_reducible first|refine v8 ?_|refine Sp.mk ?_ ?_|refine vS ?_|refine vR ?_|refine vB ?_|refine br_nt ?_|refine br_tt ?_|refine br_ff ?_|refine vP ?_|refine vQ ?_|refine vT ?_|refine vF ?_|refine br_and ?_|refine br_or ?_|refine br_d (fun _=>?_) fun _=>?_|refine vM (fun _=>?_) fun _=>?_)
      refine ⟨_, _, [], [], rfl, ?_, ?_, ⟨⟨yp, yb, yr⟩, M⟩, rfl, rfl, ⟨⟨placeOk_short hp, by dsimp only; omega, fun x hx => (hpm x hx).elim (hs.2.2 x) fun e => e ▸ hs.1⟩⟩, ?_⟩
      ·repeat' ((conv=>whnf);first|with_reducible exact True.intro|exact vW|with_reducible refine And.intro ?_ ?_)
      ·repeat' ((conv=>whnf);first|with_reducible exact True.intro|exact vW|with_reducible refine And.intro ?_ ?_)
      dsimp only [deG, psO]
      repeat' ((conv=>whnf);first|refine vA ?_|with_reducible first|refine v8 ?_|refine Sp.mk ?_ ?_|refine vS ?_|refine vR ?_|refine vB ?_|refine br_nt ?_|refine br_tt ?_|refine br_ff ?_|refine vP ?_|refine vQ ?_|refine vT ?_|refine vF ?_|refine br_and ?_|refine br_or ?_|refine br_d (fun _=>?_) fun _=>?_|refine vM (fun _=>?_) fun _=>?_)
      refine ⟨_, ?_, h⟩
      repeat' ((conv=>whnf);first|with_reducible exact True.intro|exact vW|with_reducible refine And.intro ?_ ?_)
      all_goals exact Chk.mk ⟨rfl, fun i _ => by dsimp only; (try rw [Nat.zero_add]); try rfl⟩
    ·rw [eS (hsame.1 rfl)] at h
     repeat' ((conv=>whnf);first|refine vA ?_|with_reducible first|refine v8 ?_|refine Sp.mk ?_ ?_|refine vS ?_|refine vR ?_|refine vB ?_|refine br_nt ?_|refine br_tt ?_|refine br_ff ?_|refine vP ?_|refine vQ ?_|refine vT ?_|refine vF ?_|refine br_and ?_|refine br_or ?_|refine br_d (fun _=>?_) fun _=>?_|refine vM (fun _=>?_) fun _=>?_)
     refine ⟨_, ?_, h⟩
     repeat' ((conv=>whnf);first|with_reducible exact True.intro|exact vW|with_reducible refine And.intro ?_ ?_)
     all_goals exact Chk.mk ⟨rfl, fun i _ => by dsimp only; (try rw [Nat.zero_add]); try rfl⟩
   ·rw [eB hp] at h
    repeat' ((conv=>whnf);first|refine vA ?_|with_reducible first|refine v8 ?_|refine Sp.mk ?_ ?_|refine vS ?_|refine vR ?_|refine vB ?_|refine br_nt ?_|refine br_tt ?_|refine br_ff ?_|refine vP ?_|refine vQ ?_|refine vT ?_|refine vF ?_|refine br_and ?_|refine br_or ?_|refine br_d (fun _=>?_) fun _=>?_|refine vM (fun _=>?_) fun _=>?_)
    refine ⟨⟨yp, yb, yr⟩, ?_, ⟨hMI⟩, ?_⟩
    ·repeat' ((conv=>whnf);first|with_reducible exact True.intro|exact vW|with_reducible refine And.intro ?_ ?_)
    repeat' ((conv=>whnf);first|refine vA ?_|with_reducible first|refine v8 ?_|refine Sp.mk ?_ ?_|refine vS ?_|refine vR ?_|refine vB ?_|refine br_nt ?_|refine br_tt ?_|refine br_ff ?_|refine vP ?_|refine vQ ?_|refine vT ?_|refine vF ?_|refine br_and ?_|refine br_or ?_|refine br_d (fun _=>?_) fun _=>?_|refine vM (fun _=>?_) fun _=>?_)
    refine ⟨_, ?_, h⟩
    repeat' ((conv=>whnf);first|with_reducible exact True.intro|exact vW|with_reducible refine And.intro ?_ ?_)
    all_goals exact Chk.mk ⟨rfl, fun i _ => by dsimp only; (try rw [Nat.zero_add]); try rfl⟩
end Go.Proofs.YtkafoolhbflfkaaGreatDoor.Vc
end
section
/- Part XE: the laws on texts of deeds that are read. -/
namespace Go.Proofs.YtkafoolhbflfkaaGreatDoor.Vc
open Go.Proofs
set_option maxRecDepth 10000
set_option maxHeartbeats 4000000
theorem drawnP.S {x : Place} (h : drawnP x) : placeS x := ⟨h.I, h.bl, Nat.le_trans h.rl (by decide)⟩
end Go.Proofs.YtkafoolhbflfkaaGreatDoor.Vc
end
section
/- Part XH: deeds that are drawn; the laws on journals. -/
namespace Go.Proofs.YtkafoolhbflfkaaGreatDoor.Vc
open Go.Proofs
set_option maxRecDepth 10000
set_option maxHeartbeats 4000000
def drawnL (l : List Dd) : Prop := l.length ≤ 6 ∧ ∀ a ∈ l, drawnA a
theorem wsum_le {l : List Dd} {M : Nat} (h : ∀ a ∈ l, a.words.size ≤ M) : ∀ i, i ≤ l.length → wsum l i ≤ M * i
 |0, _ => Nat.le_refl _
 |i + 1, hi => by
  have h1 := wsum_le h i (by omega)
  have h2 := h _ (getD_mem' (d := default) hi)
  show wsum l i + _ ≤ _
  rw [Nat.mul_add, Nat.mul_one]
  omega
theorem drawnL.j {l : List Dd} (h : drawnL l) : jOk l := by
 have := wsum_le (M := 10000) (fun a ha => (h.2 a ha).w0) _ (Nat.le_refl l.length)
 have := h.1
 unfold jOk
 omega
end Go.Proofs.YtkafoolhbflfkaaGreatDoor.Vc
end
section
/- Part TP: desks whose past is a row of one's own. -/
namespace Go.Proofs.YtkafoolhbflfkaaGreatDoor.Vc
open Go.Proofs
set_option maxRecDepth 10000
set_option maxHeartbeats 4000000
structure Dk where
 x : Place
 L : List Place
 n : Nat
def Dk.d (k : Dk) : Desk := ⟨k.x, k.L.take k.n⟩
end Go.Proofs.YtkafoolhbflfkaaGreatDoor.Vc
end
section
/- Part TQ: desks that are drawn. -/
namespace Go.Proofs.YtkafoolhbflfkaaGreatDoor.Vc
open Go.Proofs
set_option maxRecDepth 10000
set_option maxHeartbeats 4000000
end Go.Proofs.YtkafoolhbflfkaaGreatDoor.Vc
end
section
/- Part TR: the law of desks. -/
namespace Go.Proofs.YtkafoolhbflfkaaGreatDoor.Vc
open Go.Proofs
set_option maxRecDepth 10000
set_option maxHeartbeats 4000000
end Go.Proofs.YtkafoolhbflfkaaGreatDoor.Vc
end
section
/- Part XL: deeds at desks, one and many, by both sides; drawn ones. -/
namespace Go.Proofs.YtkafoolhbflfkaaGreatDoor.Vc
open Go.Proofs
set_option maxRecDepth 10000
set_option maxHeartbeats 4000000
theorem deskOk_I {d : Desk} (h : deskOk d) : deskI d := ⟨I_of h.1, by have := h.2.1; omega, fun p hp => I_of (h.2.2 p hp)⟩
structure Rn where
 d : Desk
 l : List Dd
structure Ri where
 i : Nat
 e : Desk
 n : Nat
def rnPre (x : Rn) : Prop := deskOk x.d ∧ (∀ a ∈ x.l, dedI a) ∧ x.l.length ≤ 1048576
def C257 : List AV → (AV → Prop) → Prop := con (X := Rn) (fun x => [enDe x.d, slD x.l]) rnPre fun x K => K (.tup [enDe (runD x.d x.l).1, .int .i64 ((runD x.d x.l).2 : Nat)])
theorem F257 : FF 80 C257 := by
 refine fitXE [(73, C183)] (by simp only [List.mem_cons, List.not_mem_nil, or_false]; rintro _ rfl; exact F183) [(109, C198)] (by simp only [List.mem_cons, List.not_mem_nil, or_false]; rintro _ rfl; exact F198) Tryz.f80 ⟨rfl, by decide +kernel, by decide +kernel⟩ (fun _ _ _ hk h => hk _ h) ?_
 rintro ⟨⟨⟨p, bs, rs⟩, past⟩, l⟩ K ⟨hO, hl, hll⟩ h
 refine ⟨Nat.le_of_ble_eq_true rfl, ?_⟩
 dsimp only at hO hl hll h
 have hs := deskOk_short hO
 dsimp only [enDe, deC] at h ⊢
 repeat' ((conv=>whnf);first|refine vA ?_|with_reducible first|refine v8 ?_|refine Sp.mk ?_ ?_|refine vS ?_|refine vR ?_|refine vB ?_|refine br_nt ?_|refine br_tt ?_|refine br_ff ?_|refine vP ?_|refine vQ ?_|refine vT ?_|refine vF ?_|refine br_and ?_|refine br_or ?_|refine br_d (fun _=>?_) fun _=>?_|refine vM (fun _=>?_) fun _=>?_)
 refine ⟨_, _, [], [], rfl, ?_, ?_, ⟨⟨p, bs, rs⟩, past⟩, rfl, rfl, ⟨hs⟩, ?_⟩
 ·repeat' ((conv=>whnf);first|with_reducible exact True.intro|exact vW|with_reducible refine And.intro ?_ ?_)
 ·repeat' ((conv=>whnf);first|with_reducible exact True.intro|exact vW|with_reducible refine And.intro ?_ ?_)
 dsimp only [deG, psO]
 repeat' ((conv=>whnf);first|refine vA ?_|with_reducible first|refine v8 ?_|refine Sp.mk ?_ ?_|refine vS ?_|refine vR ?_|refine vB ?_|refine br_nt ?_|refine br_tt ?_|refine br_ff ?_|refine vP ?_|refine vQ ?_|refine vT ?_|refine vF ?_|refine br_and ?_|refine br_or ?_|refine br_d (fun _=>?_) fun _=>?_|refine vM (fun _=>?_) fun _=>?_)
 refine Lp.mk ⟨Ri, fun x => [(1, slD l), (4, .ptr 0 0), (6, .ptr 1 0), (7, .int .i64 x.n), (8, .int .i64 x.i)], fun x => [.box [.int .i64 0, .nils, .nils, .nils], .box [.int .i64 x.e.now.p, slI x.e.now.bs, slS x.e.now.rules, slP x.e.past]], fun x => x.i ≤ l.length ∧ runD ⟨⟨p, bs, rs⟩, past⟩ (l.take x.i) = (x.e, x.n), fun x => l.length - x.i, ⟨⟨0, ⟨⟨p, bs, rs⟩, past⟩, 0⟩, ⟨Nat.zero_le _, rfl⟩, ?_⟩, ?_⟩
 ·first | (refine ⟨⟨[some 1, some 3], [2], rfl, rfl, ?_, ?_⟩⟩ <;> (repeat' ((conv=>whnf);first|with_reducible exact True.intro|exact vW|with_reducible refine And.intro ?_ ?_ | exact Chk.mk ⟨rfl, by dsimp only; omega, fun i _ => by dsimp only; (try rw [Nat.zero_add]); try rfl⟩)) <;> fail) | (refine ⟨⟨[some 1, some 2], [3], rfl, rfl, ?_, ?_⟩⟩ <;> (repeat' ((conv=>whnf);first|with_reducible exact True.intro|exact vW|with_reducible refine And.intro ?_ ?_ | exact Chk.mk ⟨rfl, by dsimp only; omega, fun i _ => by dsimp only; (try rw [Nat.zero_add]); try rfl⟩)) <;> fail)
 rintro ⟨i, ⟨⟨ep, eb, er⟩, el⟩, n⟩ ⟨i1, i2⟩
 dsimp only at i1 i2 ⊢
 have hOe : deskOk ⟨⟨ep, eb, er⟩, el⟩ := by have := runD_ok hO (l.take i); rw [i2] at this; exact this
 have hn := runD_le ⟨⟨p, bs, rs⟩, past⟩ (l.take i)
 rw [i2, List.length_take] at hn
 dsimp only at hn
 by_cases hi : i < l.length
 ·have hst := take_step hi
  have ha := hl _ (getD_mem' (d := default) hi)
  generalize hA : l.getD i default = A at ha hst
  have hA' : l.getD (i : Int).toNat default = A := hA
  repeat' ((conv=>whnf);first|refine vA ?_|with_reducible first|refine v8 ?_|refine Sp.mk ?_ ?_|refine vS ?_|refine vR ?_|refine vB ?_|refine br_nt ?_|refine br_tt ?_|refine br_ff ?_|refine vP ?_|refine vQ ?_|refine vT ?_|refine vF ?_|refine br_and ?_|refine br_or ?_|refine br_d (fun _=>?_) fun _=>?_|refine vM (fun _=>?_) fun _=>?_)
  refine Dr.mk ⟨(.rd 0 (.rd 1 (.rd 2 (.rd 3 (.rd 4 (.ef 5 (.rd 6 (.rd 7 (.rd 8 (.ef 9 (.ef 10 (.rd 11 .dn) .no) .no)))) (.ef 9 (.ef 5 (.rd 6 (.rd 7 (.rd 8 (.ef 10 (.rd 11 .dn) .no)))) .no) .no))))))), by decide +kernel, ?_⟩
  repeat' ((conv=>whnf);first|refine vA ?_|with_reducible first|refine v8 ?_|refine Sp.mk ?_ ?_|refine vS ?_|refine vR ?_|refine vB ?_|refine br_nt ?_|refine br_tt ?_|refine br_ff ?_|refine vP ?_|refine vQ ?_|refine vT ?_|refine vF ?_|refine br_and ?_|refine br_or ?_|refine br_d (fun _=>?_) fun _=>?_|refine vM (fun _=>?_) fun _=>?_)
  all_goals
   refine ⟨⟨⟨⟨ep, eb, er⟩, el⟩, A⟩, ?_, ⟨deskOk_I hOe, ha⟩, ?_⟩
   ·repeat' ((conv=>whnf);first|with_reducible exact True.intro|exact vW|with_reducible refine And.intro ?_ ?_)
    all_goals first | exact Chk.mk (by rw [hA'])
   dsimp only
   cases hd : doD ⟨⟨ep, eb, er⟩, el⟩ A with
   |none =>
    have hr : runD ⟨⟨p, bs, rs⟩, past⟩ (l.take (i + 1)) = (⟨⟨ep, eb, er⟩, el⟩, n) := by rw [hst, runD_none (by rw [i2]; exact hd), i2]
    rw [afterD_none hOe hd, canD_none hd]
    dsimp only [enDe, deC]
    repeat' ((conv=>whnf);first|refine vA ?_|with_reducible first|refine v8 ?_|refine Sp.mk ?_ ?_|refine vS ?_|refine vR ?_|refine vB ?_|refine br_nt ?_|refine br_tt ?_|refine br_ff ?_|refine vP ?_|refine vQ ?_|refine vT ?_|refine vF ?_|refine br_and ?_|refine br_or ?_|refine br_d (fun _=>?_) fun _=>?_|refine vM (fun _=>?_) fun _=>?_)
    refine ⟨⟨i + 1, ⟨⟨ep, eb, er⟩, el⟩, n⟩, ⟨by dsimp only; omega, hr⟩, by dsimp only; omega, ?_⟩
    first | (refine ⟨⟨[some 0, some 1], [], rfl, rfl, ?_, ?_⟩⟩ <;> (repeat' ((conv=>whnf);first|with_reducible exact True.intro|exact vW|with_reducible refine And.intro ?_ ?_)) <;> fail)
   |some e =>
    have hr : runD ⟨⟨p, bs, rs⟩, past⟩ (l.take (i + 1)) = (e, n + 1) := by rw [hst, runD_some (by rw [i2]; exact hd), i2]
    rw [afterD_some hOe hd, canD_some hOe hd]
    obtain ⟨⟨fp, fb, fr⟩, fl⟩ := e
    dsimp only [enDe, deC]
    repeat' ((conv=>whnf);first|refine vA ?_|with_reducible first|refine v8 ?_|refine Sp.mk ?_ ?_|refine vS ?_|refine vR ?_|refine vB ?_|refine br_nt ?_|refine br_tt ?_|refine br_ff ?_|refine vP ?_|refine vQ ?_|refine vT ?_|refine vF ?_|refine br_and ?_|refine br_or ?_|refine br_d (fun _=>?_) fun _=>?_|refine vM (fun _=>?_) fun _=>?_)
    refine ⟨⟨i + 1, ⟨⟨fp, fb, fr⟩, fl⟩, n + 1⟩, ⟨by dsimp only; omega, hr⟩, by dsimp only; omega, ?_⟩
    first | (refine ⟨⟨[some 0, some 1], [], rfl, rfl, ?_, ?_⟩⟩ <;> (repeat' ((conv=>whnf);first|with_reducible exact True.intro|exact vW|with_reducible refine And.intro ?_ ?_)) <;> fail)
 ·obtain rfl : i = l.length := by omega
  rw [List.take_length] at i2
  rw [i2] at h
  repeat' ((conv=>whnf);first|refine vA ?_|with_reducible first|refine v8 ?_|refine Sp.mk ?_ ?_|refine vS ?_|refine vR ?_|refine vB ?_|refine br_nt ?_|refine br_tt ?_|refine br_ff ?_|refine vP ?_|refine vQ ?_|refine vT ?_|refine vF ?_|refine br_and ?_|refine br_or ?_|refine br_d (fun _=>?_) fun _=>?_|refine vM (fun _=>?_) fun _=>?_)
  refine ⟨_, ?_, h⟩
  repeat' ((conv=>whnf);first|with_reducible exact True.intro|exact vW|with_reducible refine And.intro ?_ ?_)
def C256 := C257
theorem F256 : FF 88 C256 := by
 refine fitXE [(77, C254)] (by simp only [List.mem_cons, List.not_mem_nil, or_false]; rintro _ rfl; exact F254) [(114, C261)] (by simp only [List.mem_cons, List.not_mem_nil, or_false]; rintro _ rfl; exact F261) Tryz.f88 ⟨rfl, by decide +kernel, by decide +kernel⟩ (fun _ _ _ hk h => hk _ h) ?_
 rintro ⟨⟨⟨p, bs, rs⟩, past⟩, l⟩ K ⟨hO, hl, hll⟩ h
 refine ⟨Nat.le_of_ble_eq_true rfl, ?_⟩
 dsimp only at hO hl hll h
 have hs := deskOk_short hO
 dsimp only [enDe, deC] at h ⊢
 repeat' ((conv=>whnf);first|refine vA ?_|with_reducible first|refine v8 ?_|refine Sp.mk ?_ ?_|refine vS ?_|refine vR ?_|refine vB ?_|refine br_nt ?_|refine br_tt ?_|refine br_ff ?_|refine vP ?_|refine vQ ?_|refine vT ?_|refine vF ?_|refine br_and ?_|refine br_or ?_|refine br_d (fun _=>?_) fun _=>?_|refine vM (fun _=>?_) fun _=>?_)
 refine ⟨_, _, [], [], rfl, ?_, ?_, ⟨⟨p, bs, rs⟩, past⟩, rfl, rfl, ⟨hs⟩, ?_⟩
 ·repeat' ((conv=>whnf);first|with_reducible exact True.intro|exact vW|with_reducible refine And.intro ?_ ?_)
 ·repeat' ((conv=>whnf);first|with_reducible exact True.intro|exact vW|with_reducible refine And.intro ?_ ?_)
 dsimp only [deG, psO]
 repeat' ((conv=>whnf);first|refine vA ?_|with_reducible first|refine v8 ?_|refine Sp.mk ?_ ?_|refine vS ?_|refine vR ?_|refine vB ?_|refine br_nt ?_|refine br_tt ?_|refine br_ff ?_|refine vP ?_|refine vQ ?_|refine vT ?_|refine vF ?_|refine br_and ?_|refine br_or ?_|refine br_d (fun _=>?_) fun _=>?_|refine vM (fun _=>?_) fun _=>?_)
 refine Lp.mk ⟨Ri, fun x => [(2, .ptr 1 0), (4, .ptr 0 0), (6, .int .i64 x.n), (13, slD l), (14, .int .i64 l.length), (15, .int .i64 x.i)], fun x => [.box [.int .i64 0, .nils, .nils, .nils], .box [.int .i64 x.e.now.p, slI x.e.now.bs, slS x.e.now.rules, slP x.e.past]], fun x => x.i ≤ l.length ∧ runD ⟨⟨p, bs, rs⟩, past⟩ (l.take x.i) = (x.e, x.n), fun x => l.length - x.i, ⟨⟨0, ⟨⟨p, bs, rs⟩, past⟩, 0⟩, ⟨Nat.zero_le _, rfl⟩, ?_⟩, ?_⟩
 ·first | (refine ⟨⟨[some 1, some 0], [2], rfl, rfl, ?_, ?_⟩⟩ <;> (repeat' ((conv=>whnf);first|with_reducible exact True.intro|exact vW|with_reducible refine And.intro ?_ ?_ | exact Chk.mk ⟨rfl, by dsimp only; omega, fun i _ => by dsimp only; (try rw [Nat.zero_add]); try rfl⟩)) <;> fail)
 rintro ⟨i, ⟨⟨ep, eb, er⟩, el⟩, n⟩ ⟨i1, i2⟩
 dsimp only at i1 i2 ⊢
 have hOe : deskOk ⟨⟨ep, eb, er⟩, el⟩ := by have := runD_ok hO (l.take i); rw [i2] at this; exact this
 have hn := runD_le ⟨⟨p, bs, rs⟩, past⟩ (l.take i)
 rw [i2, List.length_take] at hn
 dsimp only at hn
 by_cases hi : i < l.length
 ·have hst := take_step hi
  have ha := hl _ (getD_mem' (d := default) hi)
  generalize hA : l.getD i default = A at ha hst
  have hA' : l.getD (i : Int).toNat default = A := hA
  repeat' ((conv=>whnf);first|refine vA ?_|with_reducible first|refine v8 ?_|refine Sp.mk ?_ ?_|refine vS ?_|refine vR ?_|refine vB ?_|refine br_nt ?_|refine br_tt ?_|refine br_ff ?_|refine vP ?_|refine vQ ?_|refine vT ?_|refine vF ?_|refine br_and ?_|refine br_or ?_|refine br_d (fun _=>?_) fun _=>?_|refine vM (fun _=>?_) fun _=>?_)
  refine ⟨⟨⟨⟨ep, eb, er⟩, el⟩, A⟩, ?_, ⟨deskOk_I hOe, hOe, ha⟩, ?_⟩
  ·repeat' ((conv=>whnf);first|with_reducible exact True.intro|exact vW|with_reducible refine And.intro ?_ ?_)
   all_goals first | exact Chk.mk (by rw [hA'])
  dsimp only
  cases hd : doD ⟨⟨ep, eb, er⟩, el⟩ A with
  |none =>
   have hr : runD ⟨⟨p, bs, rs⟩, past⟩ (l.take (i + 1)) = (⟨⟨ep, eb, er⟩, el⟩, n) := by rw [hst, runD_none (by rw [i2]; exact hd), i2]
   dsimp only [enDe, deC, Option.getD_none, Option.isSome_none]
   repeat' ((conv=>whnf);first|refine vA ?_|with_reducible first|refine v8 ?_|refine Sp.mk ?_ ?_|refine vS ?_|refine vR ?_|refine vB ?_|refine br_nt ?_|refine br_tt ?_|refine br_ff ?_|refine vP ?_|refine vQ ?_|refine vT ?_|refine vF ?_|refine br_and ?_|refine br_or ?_|refine br_d (fun _=>?_) fun _=>?_|refine vM (fun _=>?_) fun _=>?_)
   refine ⟨⟨i + 1, ⟨⟨ep, eb, er⟩, el⟩, n⟩, ⟨by dsimp only; omega, hr⟩, by dsimp only; omega, ?_⟩
   first | (refine ⟨⟨[some 0, some 1], [], rfl, rfl, ?_, ?_⟩⟩ <;> (repeat' ((conv=>whnf);first|with_reducible exact True.intro|exact vW|with_reducible refine And.intro ?_ ?_)) <;> fail)
  |some e =>
   have hr : runD ⟨⟨p, bs, rs⟩, past⟩ (l.take (i + 1)) = (e, n + 1) := by rw [hst, runD_some (by rw [i2]; exact hd), i2]
   obtain ⟨⟨fp, fb, fr⟩, fl⟩ := e
   dsimp only [enDe, deC, Option.getD_some, Option.isSome_some]
   repeat' ((conv=>whnf);first|refine vA ?_|with_reducible first|refine v8 ?_|refine Sp.mk ?_ ?_|refine vS ?_|refine vR ?_|refine vB ?_|refine br_nt ?_|refine br_tt ?_|refine br_ff ?_|refine vP ?_|refine vQ ?_|refine vT ?_|refine vF ?_|refine br_and ?_|refine br_or ?_|refine br_d (fun _=>?_) fun _=>?_|refine vM (fun _=>?_) fun _=>?_)
   refine ⟨⟨i + 1, ⟨⟨fp, fb, fr⟩, fl⟩, n + 1⟩, ⟨by dsimp only; omega, hr⟩, by dsimp only; omega, ?_⟩
   first | (refine ⟨⟨[some 0, some 1], [], rfl, rfl, ?_, ?_⟩⟩ <;> (repeat' ((conv=>whnf);first|with_reducible exact True.intro|exact vW|with_reducible refine And.intro ?_ ?_)) <;> fail)
 ·obtain rfl : i = l.length := by omega
  rw [List.take_length] at i2
  rw [i2] at h
  repeat' ((conv=>whnf);first|refine vA ?_|with_reducible first|refine v8 ?_|refine Sp.mk ?_ ?_|refine vS ?_|refine vR ?_|refine vB ?_|refine br_nt ?_|refine br_tt ?_|refine br_ff ?_|refine vP ?_|refine vQ ?_|refine vT ?_|refine vF ?_|refine br_and ?_|refine br_or ?_|refine br_d (fun _=>?_) fun _=>?_|refine vM (fun _=>?_) fun _=>?_)
  refine ⟨_, ?_, h⟩
  repeat' ((conv=>whnf);first|with_reducible exact True.intro|exact vW|with_reducible refine And.intro ?_ ?_)
end Go.Proofs.YtkafoolhbflfkaaGreatDoor.Vc
end
section
/- Part YC: stores that are opened, acted at and saved, by both sides. -/
namespace Go.Proofs.YtkafoolhbflfkaaGreatDoor.Vc
open Go.Proofs
set_option maxRecDepth 10000
set_option maxHeartbeats 4000000
def C259 : List AV → (AV → Prop) → Prop := con (X := ByteArray) (fun s => [.str s]) (fun s => s.size ≤ 1048576) fun s K => K (.tup [slD (jr s), .int .i64 (jn s : Nat)])
theorem F259 : FF 76 C259 := by
 refine fitXE [(112, C265), (113, C258)] (by simp only [List.mem_cons, List.not_mem_nil, or_false]; rintro _ (rfl | rfl) <;> first | exact F265 | exact F258) [] (by simp) Tryz.f76 ⟨rfl, by decide +kernel, by decide +kernel⟩ (by intro x K K2 hk h; (try dsimp only at h ⊢); intros; apply hk; first | exact h | (apply h <;> assumption)) ?_
 rintro s K hs h
 refine ⟨Nat.le_of_ble_eq_true rfl, ?_⟩
 repeat' ((conv=>whnf);first|refine vA ?_|with_reducible first|refine v8 ?_|refine Sp.mk ?_ ?_|refine vS ?_|refine vR ?_|refine vB ?_|refine br_nt ?_|refine br_tt ?_|refine br_ff ?_|refine vP ?_|refine vQ ?_|refine vT ?_|refine vF ?_|refine br_and ?_|refine br_or ?_|refine br_d (fun _=>?_) fun _=>?_|refine vM (fun _=>?_) fun _=>?_)
 refine Lp.mk ⟨List Dd × Nat, fun x => [(0, .str s), (4, .row 0 4 0 x.1.length), (5, .int .i64 x.2)], fun x => [.row 4 x.1.length fun i => encD (x.1.getD i default)], fun x => jrI s x.1 x.2, fun x => s.size - x.2, ⟨([], 0), jrI_0 s, ⟨⟨[none], [], rfl, rfl, ?_, ?_⟩⟩⟩, ?_⟩
 ·repeat' ((conv=>whnf);first|with_reducible exact True.intro|exact vW|with_reducible refine And.intro ?_ ?_)
 ·repeat' ((conv=>whnf);first|with_reducible exact True.intro|exact vW|with_reducible refine And.intro ?_ ?_)
 rintro ⟨l, n⟩ hI
 have i1 := hI.le
 dsimp only at i1 hI ⊢
 have hll : l.length ≤ n := by rw [hI.nn]; exact jl_len l
 have hbye : (∀ x t, okDd x → s.data.toList.drop n ≠ lineL x ++ t) → jr s = l ∧ jn s = n := hI.end
 have hes : (s.extract n s.size).size ≤ s.size := by rw [ByteArray.size_extract]; omega
 repeat' ((conv=>whnf);first|refine vA ?_|with_reducible first|refine v8 ?_|refine Sp.mk ?_ ?_|refine vS ?_|refine vR ?_|refine vB ?_|refine br_nt ?_|refine br_tt ?_|refine br_ff ?_|refine vP ?_|refine vQ ?_|refine vT ?_|refine vF ?_|refine br_and ?_|refine br_or ?_|refine br_d (fun _=>?_) fun _=>?_|refine vM (fun _=>?_) fun _=>?_)
 refine ⟨(s.extract n s.size, 10), ?_, ⟨by dsimp only; omega⟩, ?_⟩
 ·repeat' ((conv=>whnf);first|with_reducible exact True.intro|exact vW|with_reducible refine And.intro ?_ ?_)
 refine ⟨fun p r q1 q2 => ?_, fun q => ?_⟩
 ·dsimp only at q1 q2
  rw [ext_tail] at q2
  have hps : p.size ≤ s.size := by
   have := congrArg List.length q2
   rw [List.length_drop, List.length_append, Array.length_toList, Array.length_toList] at this
   show p.data.size ≤ s.data.size
   omega
  repeat' ((conv=>whnf);first|refine vA ?_|with_reducible first|refine v8 ?_|refine Sp.mk ?_ ?_|refine vS ?_|refine vR ?_|refine vB ?_|refine br_nt ?_|refine br_tt ?_|refine br_ff ?_|refine vP ?_|refine vQ ?_|refine vT ?_|refine vF ?_|refine br_and ?_|refine br_or ?_|refine br_d (fun _=>?_) fun _=>?_|refine vM (fun _=>?_) fun _=>?_)
  refine ⟨p, ?_, ⟨by omega⟩, ?_⟩
  ·repeat' ((conv=>whnf);first|with_reducible exact True.intro|exact vW|with_reducible refine And.intro ?_ ?_)
  refine ⟨fun x hx => ?_, fun hx => ?_⟩
  ·have hI2 := hI.step q2 hx
   have hle2 := hI2.le
   obtain ⟨k, a, b, w⟩ := x
   dsimp only [ded, encD]
   repeat' ((conv=>whnf);first|refine vA ?_|with_reducible first|refine v8 ?_|refine Sp.mk ?_ ?_|refine vS ?_|refine vR ?_|refine vB ?_|refine br_nt ?_|refine br_tt ?_|refine br_ff ?_|refine vP ?_|refine vQ ?_|refine vT ?_|refine vF ?_|refine br_and ?_|refine br_or ?_|refine br_d (fun _=>?_) fun _=>?_|refine vM (fun _=>?_) fun _=>?_)
   refine ⟨(l ++ [⟨k, a, b, w⟩], n + (p.size + 1)), hI2, by dsimp only; omega, ?_⟩
   first | (refine ⟨⟨[some 3], [], rfl, rfl, ?_, ?_⟩⟩ <;> (repeat' ((conv=>whnf);first|with_reducible exact True.intro|exact vW|with_reducible refine And.intro ?_ ?_ | exact Chk.mk ⟨rfl, by rw [List.length_append]; rfl⟩ | exact Chk.mk (ext_push (enc := encD) (d := default) (l := l) (x := ⟨k, a, b, w⟩) rfl))) <;> fail) | (refine ⟨⟨[some 2], [], rfl, rfl, ?_, ?_⟩⟩ <;> (repeat' ((conv=>whnf);first|with_reducible exact True.intro|exact vW|with_reducible refine And.intro ?_ ?_ | exact Chk.mk ⟨rfl, by rw [List.length_append]; rfl⟩ | exact Chk.mk (ext_push (enc := encD) (d := default) (l := l) (x := ⟨k, a, b, w⟩) rfl))) <;> fail)
  ·obtain ⟨e1, e2⟩ := hbye (q2 ▸ stop_line q1 hx)
   rw [e1, e2] at h
   dsimp only [ded, encD]
   repeat' ((conv=>whnf);first|refine vA ?_|with_reducible first|refine v8 ?_|refine Sp.mk ?_ ?_|refine vS ?_|refine vR ?_|refine vB ?_|refine br_nt ?_|refine br_tt ?_|refine br_ff ?_|refine vP ?_|refine vQ ?_|refine vT ?_|refine vF ?_|refine br_and ?_|refine br_or ?_|refine br_d (fun _=>?_) fun _=>?_|refine vM (fun _=>?_) fun _=>?_)
   refine ⟨_, ?_, h⟩
   repeat' ((conv=>whnf);first|with_reducible exact True.intro|exact vW|with_reducible refine And.intro ?_ ?_)
   all_goals exact Chk.mk ⟨rfl, fun i _ => by dsimp only; (try rw [Nat.zero_add]); try rfl⟩
 ·dsimp only at q
  rw [ext_tail] at q
  obtain ⟨e1, e2⟩ := hbye (stop_none q)
  rw [e1, e2] at h
  repeat' ((conv=>whnf);first|refine vA ?_|with_reducible first|refine v8 ?_|refine Sp.mk ?_ ?_|refine vS ?_|refine vR ?_|refine vB ?_|refine br_nt ?_|refine br_tt ?_|refine br_ff ?_|refine vP ?_|refine vQ ?_|refine vT ?_|refine vF ?_|refine br_and ?_|refine br_or ?_|refine br_d (fun _=>?_) fun _=>?_|refine vM (fun _=>?_) fun _=>?_)
  refine ⟨s.extract n s.size, ?_, ⟨by omega⟩, ?_⟩
  ·repeat' ((conv=>whnf);first|with_reducible exact True.intro|exact vW|with_reducible refine And.intro ?_ ?_)
  refine ⟨fun x hx => ?_, fun hx => ?_⟩
  ·obtain ⟨k, a, b, w⟩ := x
   dsimp only [ded, encD]
   repeat' ((conv=>whnf);first|refine vA ?_|with_reducible first|refine v8 ?_|refine Sp.mk ?_ ?_|refine vS ?_|refine vR ?_|refine vB ?_|refine br_nt ?_|refine br_tt ?_|refine br_ff ?_|refine vP ?_|refine vQ ?_|refine vT ?_|refine vF ?_|refine br_and ?_|refine br_or ?_|refine br_d (fun _=>?_) fun _=>?_|refine vM (fun _=>?_) fun _=>?_)
   refine ⟨_, ?_, h⟩
   repeat' ((conv=>whnf);first|with_reducible exact True.intro|exact vW|with_reducible refine And.intro ?_ ?_)
   all_goals exact Chk.mk ⟨rfl, fun i _ => by dsimp only; (try rw [Nat.zero_add]); try rfl⟩
  ·dsimp only [ded, encD]
   repeat' ((conv=>whnf);first|refine vA ?_|with_reducible first|refine v8 ?_|refine Sp.mk ?_ ?_|refine vS ?_|refine vR ?_|refine vB ?_|refine br_nt ?_|refine br_tt ?_|refine br_ff ?_|refine vP ?_|refine vQ ?_|refine vT ?_|refine vF ?_|refine br_and ?_|refine br_or ?_|refine br_d (fun _=>?_) fun _=>?_|refine vM (fun _=>?_) fun _=>?_)
   refine ⟨_, ?_, h⟩
   repeat' ((conv=>whnf);first|with_reducible exact True.intro|exact vW|with_reducible refine And.intro ?_ ?_)
   all_goals exact Chk.mk ⟨rfl, fun i _ => by dsimp only; (try rw [Nat.zero_add]); try rfl⟩
theorem jr_ded {s : ByteArray} (h : s.size ≤ 1048576) : ∀ a ∈ jr s, dedI a := fun a ha => by
 obtain ⟨h1, h2⟩ := jr_mem ha
 have hk := okDd_kind h1
 have h3 := h1.a
 have h4 := h1.b
 exact ⟨⟨by omega, by omega⟩, ⟨by omega, by omega⟩, ⟨by omega, by omega⟩, by omega⟩
def C281 : List AV → (AV → Prop) → Prop := con (X := Store) (fun s => [enSt s]) (fun s => isSt s ∧ s.saved.size < 4294967281) fun s K => K (enDe (opD s))
theorem F281 : FF 70 C281 := by
 refine fitXE [(87, C214), (76, C259), (88, C256)] (by simp only [List.mem_cons, List.not_mem_nil, or_false]; rintro _ (rfl | rfl | rfl) <;> first | exact F214 | exact F259 | exact F256) [] (by simp) Tryz.f70 ⟨rfl, by decide +kernel, by decide +kernel⟩ (by intro x K K2 hk h; (try dsimp only at h ⊢); intros; apply hk; first | exact h | (apply h <;> assumption)) ?_
 rintro ⟨a, b, c⟩ K ⟨hS, hs⟩ h
 refine ⟨Nat.le_of_ble_eq_true rfl, ?_⟩
 have hl := hS.2.1
 have hp := plOf_is hS
 have hjl := jr_len b
 have hjd := jr_ded (s := b) (by dsimp only at hl; omega)
 unfold opD at h
 dsimp only [enSt, stC] at h hs hl hp ⊢
 obtain ⟨x, hx⟩ : ∃ x, plOf a = x := ⟨_, rfl⟩
 rw [hx] at h hp
 repeat' ((conv=>whnf);first|refine vA ?_|with_reducible first|refine v8 ?_|refine Sp.mk ?_ ?_|refine vS ?_|refine vR ?_|refine vB ?_|refine br_nt ?_|refine br_tt ?_|refine br_ff ?_|refine vP ?_|refine vQ ?_|refine vT ?_|refine vF ?_|refine br_and ?_|refine br_or ?_|refine br_d (fun _=>?_) fun _=>?_|refine vM (fun _=>?_) fun _=>?_)
 refine ⟨a, ?_, ⟨hs⟩, ?_⟩
 ·repeat' ((conv=>whnf);first|with_reducible exact True.intro|exact vW|with_reducible refine And.intro ?_ ?_)
 refine ⟨fun y q => ?_, fun q => (q ⟨_, hp⟩).elim⟩
 obtain rfl := isPt_one q hp
 have hO := hp.1
 obtain ⟨p, bs, rs⟩ := y
 dsimp only [enPl, plC]
 repeat' ((conv=>whnf);first|refine vA ?_|with_reducible first|refine v8 ?_|refine Sp.mk ?_ ?_|refine vS ?_|refine vR ?_|refine vB ?_|refine br_nt ?_|refine br_tt ?_|refine br_ff ?_|refine vP ?_|refine vQ ?_|refine vT ?_|refine vF ?_|refine br_and ?_|refine br_or ?_|refine br_d (fun _=>?_) fun _=>?_|refine vM (fun _=>?_) fun _=>?_)
 refine ⟨b, ?_, ⟨by omega⟩, ?_⟩
 ·repeat' ((conv=>whnf);first|with_reducible exact True.intro|exact vW|with_reducible refine And.intro ?_ ?_)
 repeat' ((conv=>whnf);first|refine vA ?_|with_reducible first|refine v8 ?_|refine Sp.mk ?_ ?_|refine vS ?_|refine vR ?_|refine vB ?_|refine br_nt ?_|refine br_tt ?_|refine br_ff ?_|refine vP ?_|refine vQ ?_|refine vT ?_|refine vF ?_|refine br_and ?_|refine br_or ?_|refine br_d (fun _=>?_) fun _=>?_|refine vM (fun _=>?_) fun _=>?_)
 refine ⟨⟨⟨⟨p, bs, rs⟩, []⟩, jr b⟩, ?_, ⟨desk0_ok hO, hjd, by dsimp only; omega⟩, ?_⟩
 ·repeat' ((conv=>whnf);first|with_reducible exact True.intro|exact vW|with_reducible refine And.intro ?_ ?_)
 dsimp only
 generalize runD ⟨⟨p, bs, rs⟩, []⟩ (jr b) = r at h ⊢
 obtain ⟨⟨⟨ep, eb, er⟩, el⟩, n⟩ := r
 dsimp only [enDe, deC] at h ⊢
 repeat' ((conv=>whnf);first|refine vA ?_|with_reducible first|refine v8 ?_|refine Sp.mk ?_ ?_|refine vS ?_|refine vR ?_|refine vB ?_|refine br_nt ?_|refine br_tt ?_|refine br_ff ?_|refine vP ?_|refine vQ ?_|refine vT ?_|refine vF ?_|refine br_and ?_|refine br_or ?_|refine br_d (fun _=>?_) fun _=>?_|refine vM (fun _=>?_) fun _=>?_)
 refine ⟨_, ?_, h⟩
 repeat' ((conv=>whnf);first|with_reducible exact True.intro|exact vW|with_reducible refine And.intro ?_ ?_)
def C282 : List AV → (AV → Prop) → Prop := con (X := Store) (fun s => [enSt s]) storeP fun s K => K (.tup [enDe ((openS s).getD default), .bool (openS s).isSome])
theorem openS_yes {s : Store} (h : isSt s) : openS s = some (opD s) := if_pos h
theorem openS_no {s : Store} (h : ¬ isSt s) : openS s = none := if_neg h
theorem isf {o : Bool} {p : Prop} (h : o = true ↔ p) (hp : ¬ p) : o = false := by cases o with | false => rfl | true => exact absurd (h.1 rfl) hp
theorem F282 : FF 28 C282 := by
 refine fitXE [(60, C220), (70, C281)] (by simp only [List.mem_cons, List.not_mem_nil, or_false]; rintro _ (rfl | rfl) <;> first | exact F220 | exact F281) [] (by simp) Tryz.f28 ⟨rfl, by decide +kernel, by decide +kernel⟩ (by intro x K K2 hk h; (try dsimp only at h ⊢); intros; apply hk; first | exact h | (apply h <;> assumption)) ?_
 rintro ⟨a, b, c⟩ K hP h
 refine ⟨Nat.le_of_ble_eq_true rfl, ?_⟩
 have hs := hP.2
 dsimp only [enSt, stC] at hs ⊢
 repeat' ((conv=>whnf);first|refine vA ?_|with_reducible first|refine v8 ?_|refine Sp.mk ?_ ?_|refine vS ?_|refine vR ?_|refine vB ?_|refine br_nt ?_|refine br_tt ?_|refine br_ff ?_|refine vP ?_|refine vQ ?_|refine vT ?_|refine vF ?_|refine br_and ?_|refine br_or ?_|refine br_d (fun _=>?_) fun _=>?_|refine vM (fun _=>?_) fun _=>?_)
 refine ⟨⟨a, b, c⟩, ?_, ⟨hP⟩, ?_⟩
 ·repeat' ((conv=>whnf);first|with_reducible exact True.intro|exact vW|with_reducible refine And.intro ?_ ?_)
 intro o ho
 by_cases hS : isSt ⟨a, b, c⟩
 ·obtain rfl := ho.2 hS
  rw [openS_yes hS] at h
  repeat' ((conv=>whnf);first|refine vA ?_|with_reducible first|refine v8 ?_|refine Sp.mk ?_ ?_|refine vS ?_|refine vR ?_|refine vB ?_|refine br_nt ?_|refine br_tt ?_|refine br_ff ?_|refine vP ?_|refine vQ ?_|refine vT ?_|refine vF ?_|refine br_and ?_|refine br_or ?_|refine br_d (fun _=>?_) fun _=>?_|refine vM (fun _=>?_) fun _=>?_)
  refine ⟨⟨a, b, c⟩, ?_, ⟨hS, hs⟩, ?_⟩
  ·repeat' ((conv=>whnf);first|with_reducible exact True.intro|exact vW|with_reducible refine And.intro ?_ ?_)
  dsimp only [Option.getD_some, Option.isSome_some] at h ⊢
  generalize opD ⟨a, b, c⟩ = e at h ⊢
  obtain ⟨⟨ep, eb, er⟩, el⟩ := e
  dsimp only [enDe, deC] at h ⊢
  repeat' ((conv=>whnf);first|refine vA ?_|with_reducible first|refine v8 ?_|refine Sp.mk ?_ ?_|refine vS ?_|refine vR ?_|refine vB ?_|refine br_nt ?_|refine br_tt ?_|refine br_ff ?_|refine vP ?_|refine vQ ?_|refine vT ?_|refine vF ?_|refine br_and ?_|refine br_or ?_|refine br_d (fun _=>?_) fun _=>?_|refine vM (fun _=>?_) fun _=>?_)
  refine ⟨_, ?_, h⟩
  repeat' ((conv=>whnf);first|with_reducible exact True.intro|exact vW|with_reducible refine And.intro ?_ ?_)
 ·obtain rfl := isf ho hS
  rw [openS_no hS] at h
  repeat' ((conv=>whnf);first|refine vA ?_|with_reducible first|refine v8 ?_|refine Sp.mk ?_ ?_|refine vS ?_|refine vR ?_|refine vB ?_|refine br_nt ?_|refine br_tt ?_|refine br_ff ?_|refine vP ?_|refine vQ ?_|refine vT ?_|refine vF ?_|refine br_and ?_|refine br_or ?_|refine br_d (fun _=>?_) fun _=>?_|refine vM (fun _=>?_) fun _=>?_)
  refine ⟨_, ?_, h⟩
  repeat' ((conv=>whnf);first|with_reducible exact True.intro|exact vW|with_reducible refine And.intro ?_ ?_)
def C283 := C282
theorem F283 : FF 43 C283 := by
 refine fitXE [(17, C222), (61, C219), (72, C246), (80, C257)] (by simp only [List.mem_cons, List.not_mem_nil, or_false]; rintro _ (rfl | rfl | rfl | rfl) <;> first | exact F222 | exact F219 | exact F246 | exact F257) [] (by simp) Tryz.f43 ⟨rfl, by decide +kernel, by decide +kernel⟩ (by intro x K K2 hk h; (try dsimp only at h ⊢); intros; apply hk; first | exact h | (apply h <;> assumption)) ?_
 rintro ⟨a, b, c⟩ K hP h
 refine ⟨Nat.le_of_ble_eq_true rfl, ?_⟩
 have hs := hP.2
 dsimp only [enSt, stC] at hs ⊢
 repeat' ((conv=>whnf);first|refine vA ?_|with_reducible first|refine v8 ?_|refine Sp.mk ?_ ?_|refine vS ?_|refine vR ?_|refine vB ?_|refine br_nt ?_|refine br_tt ?_|refine br_ff ?_|refine vP ?_|refine vQ ?_|refine vT ?_|refine vF ?_|refine br_and ?_|refine br_or ?_|refine br_d (fun _=>?_) fun _=>?_|refine vM (fun _=>?_) fun _=>?_)
 refine ⟨⟨a, b, c⟩, ?_, ⟨hP⟩, ?_⟩
 ·repeat' ((conv=>whnf);first|with_reducible exact True.intro|exact vW|with_reducible refine And.intro ?_ ?_)
 intro o ho
 by_cases hS : isSt ⟨a, b, c⟩
 ·obtain rfl := ho.2 hS
  rw [openS_yes hS] at h
  have hl := hS.2.1
  have hp := plOf_is hS
  have hjl := jr_len b
  have hjd := jr_ded (s := b) (by dsimp only at hl; omega)
  unfold opD at h
  dsimp only [Option.getD_some, Option.isSome_some] at h hl hp
  obtain ⟨x, hx⟩ : ∃ x, plOf a = x := ⟨_, rfl⟩
  rw [hx] at h hp
  repeat' ((conv=>whnf);first|refine vA ?_|with_reducible first|refine v8 ?_|refine Sp.mk ?_ ?_|refine vS ?_|refine vR ?_|refine vB ?_|refine br_nt ?_|refine br_tt ?_|refine br_ff ?_|refine vP ?_|refine vQ ?_|refine vT ?_|refine vF ?_|refine br_and ?_|refine br_or ?_|refine br_d (fun _=>?_) fun _=>?_|refine vM (fun _=>?_) fun _=>?_)
  refine ⟨a, ?_, ⟨hs⟩, ?_⟩
  ·repeat' ((conv=>whnf);first|with_reducible exact True.intro|exact vW|with_reducible refine And.intro ?_ ?_)
  refine ⟨fun y q => ?_, fun q => (q ⟨_, hp⟩).elim⟩
  obtain rfl := isPt_one q hp
  have hO := hp.1
  obtain ⟨p, bs, rs⟩ := y
  dsimp only [enPl, plC]
  repeat' ((conv=>whnf);first|refine vA ?_|with_reducible first|refine v8 ?_|refine Sp.mk ?_ ?_|refine vS ?_|refine vR ?_|refine vB ?_|refine br_nt ?_|refine br_tt ?_|refine br_ff ?_|refine vP ?_|refine vQ ?_|refine vT ?_|refine vF ?_|refine br_and ?_|refine br_or ?_|refine br_d (fun _=>?_) fun _=>?_|refine vM (fun _=>?_) fun _=>?_)
  refine ⟨b, ?_, ⟨by omega⟩, ?_⟩
  ·repeat' ((conv=>whnf);first|with_reducible exact True.intro|exact vW|with_reducible refine And.intro ?_ ?_)
  repeat' ((conv=>whnf);first|refine vA ?_|with_reducible first|refine v8 ?_|refine Sp.mk ?_ ?_|refine vS ?_|refine vR ?_|refine vB ?_|refine br_nt ?_|refine br_tt ?_|refine br_ff ?_|refine vP ?_|refine vQ ?_|refine vT ?_|refine vF ?_|refine br_and ?_|refine br_or ?_|refine br_d (fun _=>?_) fun _=>?_|refine vM (fun _=>?_) fun _=>?_)
  refine ⟨⟨⟨⟨p, bs, rs⟩, []⟩, jr b⟩, ?_, ⟨desk0_ok hO, hjd, by dsimp only; omega⟩, ?_⟩
  ·repeat' ((conv=>whnf);first|with_reducible exact True.intro|exact vW|with_reducible refine And.intro ?_ ?_)
  dsimp only
  generalize runD ⟨⟨p, bs, rs⟩, []⟩ (jr b) = r at h ⊢
  obtain ⟨⟨⟨ep, eb, er⟩, el⟩, n⟩ := r
  dsimp only [enDe, deC] at h ⊢
  repeat' ((conv=>whnf);first|refine vA ?_|with_reducible first|refine v8 ?_|refine Sp.mk ?_ ?_|refine vS ?_|refine vR ?_|refine vB ?_|refine br_nt ?_|refine br_tt ?_|refine br_ff ?_|refine vP ?_|refine vQ ?_|refine vT ?_|refine vF ?_|refine br_and ?_|refine br_or ?_|refine br_d (fun _=>?_) fun _=>?_|refine vM (fun _=>?_) fun _=>?_)
  refine ⟨_, ?_, h⟩
  repeat' ((conv=>whnf);first|with_reducible exact True.intro|exact vW|with_reducible refine And.intro ?_ ?_)
 ·obtain rfl := isf ho hS
  rw [openS_no hS] at h
  repeat' ((conv=>whnf);first|refine vA ?_|with_reducible first|refine v8 ?_|refine Sp.mk ?_ ?_|refine vS ?_|refine vR ?_|refine vB ?_|refine br_nt ?_|refine br_tt ?_|refine br_ff ?_|refine vP ?_|refine vQ ?_|refine vT ?_|refine vF ?_|refine br_and ?_|refine br_or ?_|refine br_d (fun _=>?_) fun _=>?_|refine vM (fun _=>?_) fun _=>?_)
  refine ⟨_, ?_, h⟩
  repeat' ((conv=>whnf);first|with_reducible exact True.intro|exact vW|with_reducible refine And.intro ?_ ?_)
structure Sa where
 s : Store
 a : Dd
def C284 : List AV → (AV → Prop) → Prop := con (X := Sa) (fun x => [enSt x.s, ded x.a]) (fun x => storeP x.s ∧ dedI x.a ∧ x.a.words.size ≤ 1048576) fun x K => K (.tup [enSt (actR x.s x.a), .bool (actS x.s x.a).isSome])
theorem F284 : FF 39 C284 := by
 refine fitX [(60, C220), (75, C103), (76, C259), (70, C281), (77, C254)] (by simp only [List.mem_cons, List.not_mem_nil, or_false]; rintro _ (rfl | rfl | rfl | rfl | rfl) <;> first | exact F220 | exact F103 | exact F259 | exact F281 | exact F254) [] (by simp) Tryz.f39 ⟨rfl, by decide +kernel, by decide +kernel⟩ (by intro x K K2 hk h; (try dsimp only at h ⊢); intros; apply hk; first | exact h | (apply h <;> assumption)) ?_
 rintro ⟨⟨a, b, c⟩, ⟨k, x, y, w⟩⟩ K ⟨hP, hD, hw⟩ h
 refine ⟨Nat.le_of_ble_eq_true rfl, ?_⟩
 have hs := hP.2
 dsimp only [enSt, stC, ded, encD] at hs hD hw h ⊢
 repeat' ((conv=>whnf);first|refine vA ?_|with_reducible first|refine v8 ?_|refine Sp.mk ?_ ?_|refine vS ?_|refine vR ?_|refine vB ?_|refine br_nt ?_|refine br_tt ?_|refine br_ff ?_|refine vP ?_|refine vQ ?_|refine vT ?_|refine vF ?_|refine br_and ?_|refine br_or ?_|refine br_d (fun _=>?_) fun _=>?_|refine vM (fun _=>?_) fun _=>?_)
 refine ⟨⟨a, b, c⟩, ?_, ⟨hP⟩, ?_⟩
 ·repeat' ((conv=>whnf);first|with_reducible exact True.intro|exact vW|with_reducible refine And.intro ?_ ?_)
 intro o ho
 by_cases hS : isSt ⟨a, b, c⟩
 ·obtain rfl := ho.2 hS
  have hl := hS.2.1
  dsimp only at hl
  have hts := deedT_size ⟨k, x, y, w⟩
  have hj := jn_le b
  dsimp only at hts
  repeat' ((conv=>whnf);first|refine vA ?_|with_reducible first|refine v8 ?_|refine Sp.mk ?_ ?_|refine vS ?_|refine vR ?_|refine vB ?_|refine br_nt ?_|refine br_tt ?_|refine br_ff ?_|refine vP ?_|refine vQ ?_|refine vT ?_|refine vF ?_|refine br_and ?_|refine br_or ?_|refine br_d (fun _=>?_) fun _=>?_|refine vM (fun _=>?_) fun _=>?_)
  refine ⟨⟨k, x, y, w⟩, ?_, ⟨by dsimp only; omega⟩, ?_⟩
  ·repeat' ((conv=>whnf);first|with_reducible exact True.intro|exact vW|with_reducible refine And.intro ?_ ?_)
  dsimp only
  have hno : ¬ canAct ⟨a, b, c⟩ ⟨k, x, y, w⟩ → K (.tup [.agg [.str a, .str b, .int .i64 c], .bool false]) := fun q => by
   rw [actR_no hS q, actS_no fun g => q g.2] at h
   exact h
  have hyes : canAct ⟨a, b, c⟩ ⟨k, x, y, w⟩ → K (.tup [.agg [.str a, .str (b ++ (deedT ⟨k, x, y, w⟩ ++ ⟨#[10]⟩)), .int .i64 c], .bool true]) := fun q => by
   rw [actR_yes hS q, actS_yes hS q] at h
   exact h
  repeat' ((conv=>whnf);first|refine vA ?_|with_reducible first|refine v8 ?_|refine Sp.mk ?_ ?_|refine vS ?_|refine vR ?_|refine vB ?_|refine br_nt ?_|refine br_tt ?_|refine br_ff ?_|refine vP ?_|refine vQ ?_|refine vT ?_|refine vF ?_|refine br_and ?_|refine br_or ?_|refine br_d (fun _=>?_) fun _=>?_|refine vM (fun _=>?_) fun _=>?_)
  refine ⟨b, ?_, ⟨by omega⟩, ?_⟩
  ·repeat' ((conv=>whnf);first|with_reducible exact True.intro|exact vW|with_reducible refine And.intro ?_ ?_)
  by_cases hO : okDd ⟨k, x, y, w⟩
  ·have hne := okDd_ne hO
   generalize hT : deedT ⟨k, x, y, w⟩ = T at hts hne hyes ⊢
   by_cases hall : jn b = b.size
   ·by_cases hfit : b.size + T.size + 1 ≤ 1000
    ·repeat' ((conv=>whnf);first|refine vA ?_|with_reducible first|refine v8 ?_|refine Sp.mk ?_ ?_|refine vS ?_|refine vR ?_|refine vB ?_|refine br_nt ?_|refine br_tt ?_|refine br_ff ?_|refine vP ?_|refine vQ ?_|refine vT ?_|refine vF ?_|refine br_and ?_|refine br_or ?_|refine br_d (fun _=>?_) fun _=>?_|refine vM (fun _=>?_) fun _=>?_)
     refine Dr.mk ⟨(.rd 0 (.rd 2 (.ef 1 (.ef 3 (.rd 4 (.rd 5 (.rd 6 (.ef 7 (.ef 8 (.rd 9 .dn) .no) .no)))) (.ef 7 (.ef 3 (.rd 4 (.rd 5 (.rd 6 (.ef 8 (.rd 9 .dn) .no)))) .no) .no)) (.ef 7 (.ef 1 (.ef 3 (.rd 4 (.rd 5 (.rd 6 (.ef 8 (.rd 9 .dn) .no)))) .no) .no) .no)))), by decide +kernel, ?_⟩
     repeat' ((conv=>whnf);first|refine vA ?_|with_reducible first|refine v8 ?_|refine Sp.mk ?_ ?_|refine vS ?_|refine vR ?_|refine vB ?_|refine br_nt ?_|refine br_tt ?_|refine br_ff ?_|refine vP ?_|refine vQ ?_|refine vT ?_|refine vF ?_|refine br_and ?_|refine br_or ?_|refine br_d (fun _=>?_) fun _=>?_|refine vM (fun _=>?_) fun _=>?_)
     all_goals
      refine ⟨⟨a, b, c⟩, ?_, ⟨hS, hs⟩, ?_⟩
      ·repeat' ((conv=>whnf);first|with_reducible exact True.intro|exact vW|with_reducible refine And.intro ?_ ?_)
      have hop := opD_ok hS
      obtain ⟨e, he⟩ : ∃ e, opD ⟨a, b, c⟩ = e := ⟨_, rfl⟩
      have hcan : ∀ r, doD e ⟨k, x, y, w⟩ = r → (canAct ⟨a, b, c⟩ ⟨k, x, y, w⟩ ↔ r.isSome = true) := fun r hr => ⟨fun q => by have := q.can; rw [he, hr] at this; exact this, fun q => ⟨hall, by rw [he, hr]; exact q, hO, by rw [hT]; exact hfit⟩⟩
      rw [he] at hop
      dsimp only
      rw [he]
      obtain ⟨⟨ep, eb, er⟩, el⟩ := e
      dsimp only [enDe, deC]
      repeat' ((conv=>whnf);first|refine vA ?_|with_reducible first|refine v8 ?_|refine Sp.mk ?_ ?_|refine vS ?_|refine vR ?_|refine vB ?_|refine br_nt ?_|refine br_tt ?_|refine br_ff ?_|refine vP ?_|refine vQ ?_|refine vT ?_|refine vF ?_|refine br_and ?_|refine br_or ?_|refine br_d (fun _=>?_) fun _=>?_|refine vM (fun _=>?_) fun _=>?_)
      all_goals
       refine ⟨⟨⟨⟨ep, eb, er⟩, el⟩, ⟨k, x, y, w⟩⟩, ?_, ⟨deskOk_I hop, hop, hD⟩, ?_⟩
       ·repeat' ((conv=>whnf);first|with_reducible exact True.intro|exact vW|with_reducible refine And.intro ?_ ?_)
       dsimp only
       cases hd : doD ⟨⟨ep, eb, er⟩, el⟩ ⟨k, x, y, w⟩ with
       |none =>
        have hc : ¬ canAct ⟨a, b, c⟩ ⟨k, x, y, w⟩ := fun q => by have := (hcan _ hd).1 q; cases this
        dsimp only [enDe, deC, Option.getD_none, Option.isSome_none]
        repeat' ((conv=>whnf);first|refine vA ?_|with_reducible first|refine v8 ?_|refine Sp.mk ?_ ?_|refine vS ?_|refine vR ?_|refine vB ?_|refine br_nt ?_|refine br_tt ?_|refine br_ff ?_|refine vP ?_|refine vQ ?_|refine vT ?_|refine vF ?_|refine br_and ?_|refine br_or ?_|refine br_d (fun _=>?_) fun _=>?_|refine vM (fun _=>?_) fun _=>?_)
        exact hno hc
       |some f =>
        have hc := (hcan _ hd).2 rfl
        obtain ⟨⟨fp, fb, fr⟩, fl⟩ := f
        have hz : (⟨#[10]⟩ : ByteArray).size = 1 := rfl
        dsimp only [enDe, deC, Option.getD_some, Option.isSome_some]
        repeat' ((conv=>whnf);first|refine ⟨Chk.mk (by (repeat rw [ByteArray.size_append]); omega), ?_⟩|refine vA ?_|with_reducible first|refine v8 ?_|refine Sp.mk ?_ ?_|refine vS ?_|refine vR ?_|refine vB ?_|refine br_nt ?_|refine br_tt ?_|refine br_ff ?_|refine vP ?_|refine vQ ?_|refine vT ?_|refine vF ?_|refine br_and ?_|refine br_or ?_|refine br_d (fun _=>?_) fun _=>?_|refine vM (fun _=>?_) fun _=>?_)
        exact hyes hc
    ·repeat' ((conv=>whnf);first|refine vA ?_|with_reducible first|refine v8 ?_|refine Sp.mk ?_ ?_|refine vS ?_|refine vR ?_|refine vB ?_|refine br_nt ?_|refine br_tt ?_|refine br_ff ?_|refine vP ?_|refine vQ ?_|refine vT ?_|refine vF ?_|refine br_and ?_|refine br_or ?_|refine br_d (fun _=>?_) fun _=>?_|refine vM (fun _=>?_) fun _=>?_)
     exact hno fun q => hfit (by have := q.fit; rw [hT] at this; exact this)
   ·repeat' ((conv=>whnf);first|refine vA ?_|with_reducible first|refine v8 ?_|refine Sp.mk ?_ ?_|refine vS ?_|refine vR ?_|refine vB ?_|refine br_nt ?_|refine br_tt ?_|refine br_ff ?_|refine vP ?_|refine vQ ?_|refine vT ?_|refine vF ?_|refine br_and ?_|refine br_or ?_|refine br_d (fun _=>?_) fun _=>?_|refine vM (fun _=>?_) fun _=>?_)
    exact hno fun q => hall q.all
  ·rw [deedT_no hO]
   have hee : (⟨#[]⟩ : ByteArray) = ⟨#[]⟩ := rfl
   repeat' ((conv=>whnf);first|refine vA ?_|with_reducible first|refine v8 ?_|refine Sp.mk ?_ ?_|refine vS ?_|refine vR ?_|refine vB ?_|refine br_nt ?_|refine br_tt ?_|refine br_ff ?_|refine vP ?_|refine vQ ?_|refine vT ?_|refine vF ?_|refine br_and ?_|refine br_or ?_|refine br_d (fun _=>?_) fun _=>?_|refine vM (fun _=>?_) fun _=>?_)
   exact hno fun q => hO q.ok
 ·obtain rfl := isf ho hS
  have e1 : actR ⟨a, b, c⟩ ⟨k, x, y, w⟩ = default := if_neg hS
  rw [e1, actS_no fun g => hS g.1] at h
  repeat' ((conv=>whnf);first|refine vA ?_|with_reducible first|refine v8 ?_|refine Sp.mk ?_ ?_|refine vS ?_|refine vR ?_|refine vB ?_|refine br_nt ?_|refine br_tt ?_|refine br_ff ?_|refine vP ?_|refine vQ ?_|refine vT ?_|refine vF ?_|refine br_and ?_|refine br_or ?_|refine br_d (fun _=>?_) fun _=>?_|refine vM (fun _=>?_) fun _=>?_)
  exact h
def C285 := C284
theorem F285 : FF 37 C285 := by
 refine fitX [(17, C222), (72, C246), (43, C283), (73, C183), (74, C105)] (by simp only [List.mem_cons, List.not_mem_nil, or_false]; rintro _ (rfl | rfl | rfl | rfl | rfl) <;> first | exact F222 | exact F246 | exact F283 | exact F183 | exact F105) [] (by simp) Tryz.f37 ⟨rfl, by decide +kernel, by decide +kernel⟩ (by intro x K K2 hk h; (try dsimp only at h ⊢); intros; apply hk; first | exact h | (apply h <;> assumption)) ?_
 rintro ⟨⟨a, b, c⟩, ⟨k, x, y, w⟩⟩ K ⟨hP, hD, hw⟩ h
 refine ⟨Nat.le_of_ble_eq_true rfl, ?_⟩
 have hs := hP.2
 dsimp only [enSt, stC, ded, encD] at hs hD hw h ⊢
 repeat' ((conv=>whnf);first|refine vA ?_|with_reducible first|refine v8 ?_|refine Sp.mk ?_ ?_|refine vS ?_|refine vR ?_|refine vB ?_|refine br_nt ?_|refine br_tt ?_|refine br_ff ?_|refine vP ?_|refine vQ ?_|refine vT ?_|refine vF ?_|refine br_and ?_|refine br_or ?_|refine br_d (fun _=>?_) fun _=>?_|refine vM (fun _=>?_) fun _=>?_)
 refine ⟨⟨a, b, c⟩, ?_, ⟨hP⟩, ?_⟩
 ·repeat' ((conv=>whnf);first|with_reducible exact True.intro|exact vW|with_reducible refine And.intro ?_ ?_)
 intro o ho
 by_cases hS : isSt ⟨a, b, c⟩
 ·obtain rfl := ho.2 hS
  have hl := hS.2.1
  dsimp only at hl
  have hts := deedT_size ⟨k, x, y, w⟩
  have hj := jn_le b
  dsimp only at hts
  have hno : ¬ canAct ⟨a, b, c⟩ ⟨k, x, y, w⟩ → K (.tup [.agg [.str a, .str b, .int .i64 c], .bool false]) := fun q => by
   rw [actR_no hS q, actS_no fun g => q g.2] at h
   exact h
  have hyes : canAct ⟨a, b, c⟩ ⟨k, x, y, w⟩ → K (.tup [.agg [.str a, .str (b ++ (deedT ⟨k, x, y, w⟩ ++ ⟨#[10]⟩)), .int .i64 c], .bool true]) := fun q => by
   rw [actR_yes hS q, actS_yes hS q] at h
   exact h
  repeat' ((conv=>whnf);first|refine vA ?_|with_reducible first|refine v8 ?_|refine Sp.mk ?_ ?_|refine vS ?_|refine vR ?_|refine vB ?_|refine br_nt ?_|refine br_tt ?_|refine br_ff ?_|refine vP ?_|refine vQ ?_|refine vT ?_|refine vF ?_|refine br_and ?_|refine br_or ?_|refine br_d (fun _=>?_) fun _=>?_|refine vM (fun _=>?_) fun _=>?_)
  refine ⟨b, ?_, ⟨by omega⟩, ?_⟩
  ·repeat' ((conv=>whnf);first|with_reducible exact True.intro|exact vW|with_reducible refine And.intro ?_ ?_)
  repeat' ((conv=>whnf);first|refine vA ?_|with_reducible first|refine v8 ?_|refine Sp.mk ?_ ?_|refine vS ?_|refine vR ?_|refine vB ?_|refine br_nt ?_|refine br_tt ?_|refine br_ff ?_|refine vP ?_|refine vQ ?_|refine vT ?_|refine vF ?_|refine br_and ?_|refine br_or ?_|refine br_d (fun _=>?_) fun _=>?_|refine vM (fun _=>?_) fun _=>?_)
  refine ⟨⟨a, b, c⟩, ?_, ⟨hP⟩, ?_⟩
  ·repeat' ((conv=>whnf);first|with_reducible exact True.intro|exact vW|with_reducible refine And.intro ?_ ?_)
  have hop := opD_ok hS
  dsimp only
  rw [openS_yes hS]
  obtain ⟨e, he⟩ : ∃ e, opD ⟨a, b, c⟩ = e := ⟨_, rfl⟩
  have hcan : (doD e ⟨k, x, y, w⟩).isSome = (doD (opD ⟨a, b, c⟩) ⟨k, x, y, w⟩).isSome := by rw [he]
  rw [he] at hop
  dsimp only [Option.getD_some, Option.isSome_some]
  rw [he]
  have hcD : canD e ⟨k, x, y, w⟩ = (doD e ⟨k, x, y, w⟩).isSome := by unfold canD; rw [decide_eq_true hop, Bool.true_and]
  obtain ⟨⟨ep, eb, er⟩, el⟩ := e
  dsimp only [enDe, deC]
  repeat' ((conv=>whnf);first|refine vA ?_|with_reducible first|refine v8 ?_|refine Sp.mk ?_ ?_|refine vS ?_|refine vR ?_|refine vB ?_|refine br_nt ?_|refine br_tt ?_|refine br_ff ?_|refine vP ?_|refine vQ ?_|refine vT ?_|refine vF ?_|refine br_and ?_|refine br_or ?_|refine br_d (fun _=>?_) fun _=>?_|refine vM (fun _=>?_) fun _=>?_)
  refine ⟨⟨⟨⟨ep, eb, er⟩, el⟩, ⟨k, x, y, w⟩⟩, ?_, ⟨deskOk_I hop, hD⟩, ?_⟩
  ·repeat' ((conv=>whnf);first|with_reducible exact True.intro|exact vW|with_reducible refine And.intro ?_ ?_)
  dsimp only
  rw [hcD]
  generalize afterD ⟨⟨ep, eb, er⟩, el⟩ ⟨k, x, y, w⟩ = f
  obtain ⟨⟨fp, fb, fr⟩, fl⟩ := f
  generalize (doD ⟨⟨ep, eb, er⟩, el⟩ ⟨k, x, y, w⟩).isSome = can at hcan ⊢
  dsimp only [enDe, deC]
  repeat' ((conv=>whnf);first|refine vA ?_|with_reducible first|refine v8 ?_|refine Sp.mk ?_ ?_|refine vS ?_|refine vR ?_|refine vB ?_|refine br_nt ?_|refine br_tt ?_|refine br_ff ?_|refine vP ?_|refine vQ ?_|refine vT ?_|refine vF ?_|refine br_and ?_|refine br_or ?_|refine br_d (fun _=>?_) fun _=>?_|refine vM (fun _=>?_) fun _=>?_)
  refine ⟨⟨k, x, y, w⟩, ?_, ⟨by dsimp only; omega⟩, ?_⟩
  ·repeat' ((conv=>whnf);first|with_reducible exact True.intro|exact vW|with_reducible refine And.intro ?_ ?_)
  dsimp only
  by_cases hall : jn b = b.size
  ·cases can
   ·repeat' ((conv=>whnf);first|refine vA ?_|with_reducible first|refine v8 ?_|refine Sp.mk ?_ ?_|refine vS ?_|refine vR ?_|refine vB ?_|refine br_nt ?_|refine br_tt ?_|refine br_ff ?_|refine vP ?_|refine vQ ?_|refine vT ?_|refine vF ?_|refine br_and ?_|refine br_or ?_|refine br_d (fun _=>?_) fun _=>?_|refine vM (fun _=>?_) fun _=>?_)
    exact hno fun q => by have := q.can; rw [← hcan] at this; cases this
   ·by_cases hO : okDd ⟨k, x, y, w⟩
    ·have hne := okDd_ne hO
     generalize hT : deedT ⟨k, x, y, w⟩ = T at hts hne hyes ⊢
     by_cases hfit : b.size + T.size + 1 ≤ 1000
     ·have hc : canAct ⟨a, b, c⟩ ⟨k, x, y, w⟩ := ⟨hall, hcan.symm, hO, by rw [hT]; exact hfit⟩
      have hz : (⟨#[10]⟩ : ByteArray).size = 1 := rfl
      have hy := hyes hc
      rw [← ByteArray.append_assoc] at hy
      repeat' ((conv=>whnf);first|refine ⟨Chk.mk (by (repeat rw [ByteArray.size_append]); omega), ?_⟩|refine vA ?_|with_reducible first|refine v8 ?_|refine Sp.mk ?_ ?_|refine vS ?_|refine vR ?_|refine vB ?_|refine br_nt ?_|refine br_tt ?_|refine br_ff ?_|refine vP ?_|refine vQ ?_|refine vT ?_|refine vF ?_|refine br_and ?_|refine br_or ?_|refine br_d (fun _=>?_) fun _=>?_|refine vM (fun _=>?_) fun _=>?_)
      exact hy
     ·repeat' ((conv=>whnf);first|refine vA ?_|with_reducible first|refine v8 ?_|refine Sp.mk ?_ ?_|refine vS ?_|refine vR ?_|refine vB ?_|refine br_nt ?_|refine br_tt ?_|refine br_ff ?_|refine vP ?_|refine vQ ?_|refine vT ?_|refine vF ?_|refine br_and ?_|refine br_or ?_|refine br_d (fun _=>?_) fun _=>?_|refine vM (fun _=>?_) fun _=>?_)
      exact hno fun q => hfit (by have := q.fit; rw [hT] at this; exact this)
    ·rw [deedT_no hO]
     have hee : (⟨#[]⟩ : ByteArray) = ⟨#[]⟩ := rfl
     repeat' ((conv=>whnf);first|refine vA ?_|with_reducible first|refine v8 ?_|refine Sp.mk ?_ ?_|refine vS ?_|refine vR ?_|refine vB ?_|refine br_nt ?_|refine br_tt ?_|refine br_ff ?_|refine vP ?_|refine vQ ?_|refine vT ?_|refine vF ?_|refine br_and ?_|refine br_or ?_|refine br_d (fun _=>?_) fun _=>?_|refine vM (fun _=>?_) fun _=>?_)
     exact hno fun q => hO q.ok
  ·repeat' ((conv=>whnf);first|refine vA ?_|with_reducible first|refine v8 ?_|refine Sp.mk ?_ ?_|refine vS ?_|refine vR ?_|refine vB ?_|refine br_nt ?_|refine br_tt ?_|refine br_ff ?_|refine vP ?_|refine vQ ?_|refine vT ?_|refine vF ?_|refine br_and ?_|refine br_or ?_|refine br_d (fun _=>?_) fun _=>?_|refine vM (fun _=>?_) fun _=>?_)
   exact hno fun q => hall q.all
 ·obtain rfl := isf ho hS
  have e1 : actR ⟨a, b, c⟩ ⟨k, x, y, w⟩ = default := if_neg hS
  rw [e1, actS_no fun g => hS g.1] at h
  repeat' ((conv=>whnf);first|refine vA ?_|with_reducible first|refine v8 ?_|refine Sp.mk ?_ ?_|refine vS ?_|refine vR ?_|refine vB ?_|refine br_nt ?_|refine br_tt ?_|refine br_ff ?_|refine vP ?_|refine vQ ?_|refine vT ?_|refine vF ?_|refine br_and ?_|refine br_or ?_|refine br_d (fun _=>?_) fun _=>?_|refine vM (fun _=>?_) fun _=>?_)
  exact h
end Go.Proofs.YtkafoolhbflfkaaGreatDoor.Vc
end
section
/- Part YD: stores that are drawn. -/
namespace Go.Proofs.YtkafoolhbflfkaaGreatDoor.Vc
open Go.Proofs
set_option maxRecDepth 100000
set_option maxHeartbeats 4000000
def drawnS (s : Store) : Prop := s.saved.size ≤ 20010 ∧ s.log.size ≤ 1010 ∧ -10 ≤ s.sure ∧ s.sure ≤ 2000
def goodS (s : Store) : Prop := isSt s ∨ s = default
theorem isSt_sizes {s : Store} (h : isSt s) : s.saved.size ≤ 20000 ∧ s.log.size ≤ 1000 ∧ 0 ≤ s.sure ∧ s.sure ≤ s.log.size := by
 obtain ⟨x, hx⟩ := h.1
 have h1 := plT_size hx.1
 rw [hx.2] at h1
 exact ⟨h1, h.2.1, h.2.2⟩
theorem goodS.n {s : Store} (h : goodS s) : s.saved.size ≤ 20000 ∧ s.log.size ≤ 1000 ∧ 0 ≤ s.sure ∧ s.sure ≤ s.log.size := by
 rcases h with h | rfl
 ·exact isSt_sizes h
 ·exact ⟨by decide, by decide, by decide, by decide⟩
theorem goodS.P {s : Store} (h : goodS s) : storeP s := by
 have := h.n
 exact ⟨⟨by omega, by omega, ⟨by omega, by omega⟩⟩, by omega⟩
theorem newSt_good (x : Place) : goodS (newSt x) := by
 unfold newSt ptext
 split
 ·rename_i h
  exact .inl (isSt_new h)
 ·exact .inr rfl
theorem placeOk_S {x : Place} (h : placeOk x) : placeS x := ⟨I_of h, h.1.2.1, Nat.le_trans h.2.1.2 (by decide)⟩
theorem open_S (s : Store) : placeS ((openS s).getD default).now := by
 unfold openS
 split
 ·rename_i h
  exact placeOk_S (opD_ok h).1
 ·exact ⟨placeI0, by decide, by decide⟩
theorem act_good {s : Store} (h : goodS s) (a : Dd) : goodS (actR s a) := by
 unfold actR
 split
 ·split
  ·rename_i h1 h2
   exact .inl (isSt_add h1 h2)
  ·exact h
 ·exact .inr rfl
theorem sync_good (s : Store) : goodS ((syncS s).getD default) := by
 unfold syncS
 split
 ·rename_i h
  exact .inl (isSt_sync h)
 ·exact .inr rfl
theorem ext_le {s : ByteArray} {n : Nat} : (s.extract 0 n).size ≤ s.size ∧ (n ≤ s.size → (s.extract 0 n).size = n) := by
 rw [ByteArray.size_extract]
 omega
theorem crash_good (s : Store) (n : Int) : goodS ((crashS s n).getD default) := by
 unfold crashS
 split
 ·rename_i h
  obtain ⟨h, h1, h2⟩ := h
  have h3 := h.2.2.1
  have h4 := h.2.1
  have e := ext_le (s := s.log) (n := n.toNat)
  have e2 := e.2 (by omega)
  exact .inl ⟨h.1, by show (s.log.extract 0 n.toNat).size ≤ 1000; omega, h3, by show s.sure ≤ ((s.log.extract 0 n.toNat).size : Int); omega⟩
 ·exact .inr rfl
theorem sure_good {a b : ByteArray} {c m : Int} (h : goodS ⟨a, b, c⟩) (h1 : 0 ≤ m) (h2 : m ≤ b.size) : goodS ⟨a, b, m⟩ := by
 rcases h with h | h
 ·exact .inl ⟨h.1, h.2.1, h1, h2⟩
 ·cases h
  obtain rfl : m = 0 := by
   have : ((default : ByteArray).size : Int) = 0 := rfl
   omega
  exact .inr rfl
theorem goodS.d {s : Store} (h : goodS s) : drawnS s := by
 have := h.n
 exact ⟨by omega, by omega, by omega, by omega⟩
def C288 : GC := conG (X := Rd × Int) (fun x => [.ptr 0 0, .int .i64 x.2]) (fun x => [rdO x.1.b x.1.p]) (fun x => x.1.okn 300000000 ∧ i64r x.2) fun x K => ∀ (s : Store) (p' : Int), x.1.p ≤ p' → p' ≤ x.1.p + 5000 → drawnS s → K (enSt s) [rdO x.1.b p']
theorem F288 : GG 58 C288 := by
 refine fitG [(27, C144), (43, C283), (37, C285), (24, C277), (21, C275)] (by simp only [List.mem_cons, List.not_mem_nil, or_false]; rintro _ (rfl | rfl | rfl | rfl | rfl) <;> first | exact F144 | exact F283 | exact F285 | exact F277 | exact F275) [(65, C151), (64, C52), (89, C53), (82, C184), (90, C217)] (by simp only [List.mem_cons, List.not_mem_nil, or_false]; rintro _ (rfl | rfl | rfl | rfl | rfl) <;> first | exact F151 | exact F52 | exact F53 | exact F184 | exact F217) Tryz.f58 ⟨rfl, by decide +kernel, by decide +kernel⟩ (by intro x K K2 hk h; (try dsimp only at h ⊢); intros; apply hk; first | exact h | (apply h <;> assumption)) ?_
 rintro ⟨⟨b, p⟩, n⟩ K ⟨⟨h1, h2, h3, h4⟩, h5⟩ h
 refine ⟨Nat.le_of_ble_eq_true rfl, ?_⟩
 dsimp only at h h1 h2 h3 h4 h5 ⊢
 repeat' ((conv=>whnf);first|refine vA ?_|with_reducible first|refine v8 ?_|refine Sp.mk ?_ ?_|refine vS ?_|refine vR ?_|refine vB ?_|refine br_nt ?_|refine br_tt ?_|refine br_ff ?_|refine vP ?_|refine vQ ?_|refine vT ?_|refine vF ?_|refine br_and ?_|refine br_or ?_|refine br_d (fun _=>?_) fun _=>?_|refine vM (fun _=>?_) fun _=>?_)
 refine ⟨_, _, [0], [], rfl, ?_, ?_, (⟨b, p⟩, 0), rfl, rfl, ⟨⟨h1, h2, h3, by dsimp only; omega⟩, by unfold i64r; dsimp only; omega⟩, ?_⟩
 ·repeat' ((conv=>whnf);first|with_reducible exact True.intro|exact vW|with_reducible refine And.intro ?_ ?_)
 ·repeat' ((conv=>whnf);first|with_reducible exact True.intro|exact vW|with_reducible refine And.intro ?_ ?_)
 intro y p1 y1 y2 hy
 dsimp only at y1 y2 ⊢
 repeat' ((conv=>whnf);first|refine vA ?_|with_reducible first|refine v8 ?_|refine Sp.mk ?_ ?_|refine vS ?_|refine vR ?_|refine vB ?_|refine br_nt ?_|refine br_tt ?_|refine br_ff ?_|refine vP ?_|refine vQ ?_|refine vT ?_|refine vF ?_|refine br_and ?_|refine br_or ?_|refine br_d (fun _=>?_) fun _=>?_|refine vM (fun _=>?_) fun _=>?_)
 refine ⟨y, ?_, ⟨hy.I⟩, ?_⟩
 ·repeat' ((conv=>whnf);first|with_reducible exact True.intro|exact vW|with_reducible refine And.intro ?_ ?_)
 have hg := newSt_good y
 dsimp only
 generalize newSt y = s at hg ⊢
 obtain ⟨sa, sb, sc⟩ := s
 dsimp only [enSt, stC]
 repeat' ((conv=>whnf);first|refine vA ?_|with_reducible first|refine v8 ?_|refine Sp.mk ?_ ?_|refine vS ?_|refine vR ?_|refine vB ?_|refine br_nt ?_|refine br_tt ?_|refine br_ff ?_|refine vP ?_|refine vQ ?_|refine vT ?_|refine vF ?_|refine br_and ?_|refine br_or ?_|refine br_d (fun _=>?_) fun _=>?_|refine vM (fun _=>?_) fun _=>?_)
 refine ⟨_, _, [0], [], rfl, ?_, ?_, (⟨b, p1⟩, 7), rfl, rfl, ⟨⟨h1, h2, ?_, ?_⟩, ?_⟩, ?_⟩
 ·repeat' ((conv=>whnf);first|with_reducible exact True.intro|exact vW|with_reducible refine And.intro ?_ ?_)
  try exact Chk.mk (by rw [pw_sh (by assumption)])
 ·repeat' ((conv=>whnf);first|with_reducible exact True.intro|exact vW|with_reducible refine And.intro ?_ ?_)
 ·dsimp only; omega
 ·dsimp only; omega
 ·unfold i64r; dsimp only; omega
 intro k1 p2 a0 a1 a2
 dsimp only at a0 a1 a2
 repeat' ((conv=>whnf);first|refine vA ?_|with_reducible first|refine v8 ?_|refine Sp.mk ?_ ?_|refine vS ?_|refine vR ?_|refine vB ?_|refine br_nt ?_|refine br_tt ?_|refine br_ff ?_|refine vP ?_|refine vQ ?_|refine vT ?_|refine vF ?_|refine br_and ?_|refine br_or ?_|refine br_d (fun _=>?_) fun _=>?_|refine vM (fun _=>?_) fun _=>?_)
 refine Lp.mk ⟨Store × Int × Int, fun x => [(0, .ptr 0 0), (1, .int .i64 n), (4, .ptr 1 0), (5, .ptr 2 0), (7, .int .i64 x.2.1)],
  fun x => [rdO b x.2.2, .box [.str ⟨#[]⟩, .str ⟨#[]⟩, .int .i64 0], .box (stC x.1)],
  fun x => 0 ≤ x.2.1 ∧ x.2.1 ≤ 6 ∧ p2 ≤ x.2.2 ∧ x.2.2 + 300 * x.2.1 ≤ p2 + 1800 ∧ goodS x.1, fun x => x.2.1.toNat, ⟨(⟨sa, sb, sc⟩, k1, p2), ⟨by dsimp only; omega, by dsimp only; omega, by dsimp only; omega, by dsimp only; omega, hg⟩, ⟨⟨[some 0, some 1, some 2], [], rfl, rfl, ?_, ?_⟩⟩⟩, ?_⟩
 ·repeat' ((conv=>whnf);first|with_reducible exact True.intro|exact vW|with_reducible refine And.intro ?_ ?_)
 ·repeat' ((conv=>whnf);first|with_reducible exact True.intro|exact vW|with_reducible refine And.intro ?_ ?_)
 clear hg
 clear sa sb sc
 rintro ⟨⟨sa, sb, sc⟩, j, q⟩ ⟨i1, i2, i3, i4, hg⟩
 have hP := hg.P
 have hn := hg.n
 dsimp only [stC] at i1 i2 i3 i4 hn ⊢
 repeat' ((conv=>whnf);first|refine vA ?_|with_reducible first|refine v8 ?_|refine Sp.mk ?_ ?_|refine vS ?_|refine vR ?_|refine vB ?_|refine br_nt ?_|refine br_tt ?_|refine br_ff ?_|refine vP ?_|refine vQ ?_|refine vT ?_|refine vF ?_|refine br_and ?_|refine br_or ?_|refine br_d (fun _=>?_) fun _=>?_|refine vM (fun _=>?_) fun _=>?_)
 ·rename_i hj
  refine ⟨⟨sa, sb, sc⟩, ?_, ⟨hP⟩, ?_⟩
  ·repeat' ((conv=>whnf);first|with_reducible exact True.intro|exact vW|with_reducible refine And.intro ?_ ?_)
  have hS := open_S ⟨sa, sb, sc⟩
  dsimp only
  generalize (openS ⟨sa, sb, sc⟩).getD default = D at hS ⊢
  generalize (openS ⟨sa, sb, sc⟩).isSome = o
  obtain ⟨⟨ep, eb, er⟩, el⟩ := D
  dsimp only [enDe, deC] at hS ⊢
  repeat' ((conv=>whnf);first|refine vA ?_|with_reducible first|refine v8 ?_|refine Sp.mk ?_ ?_|refine vS ?_|refine vR ?_|refine vB ?_|refine br_nt ?_|refine br_tt ?_|refine br_ff ?_|refine vP ?_|refine vQ ?_|refine vT ?_|refine vF ?_|refine br_and ?_|refine br_or ?_|refine br_d (fun _=>?_) fun _=>?_|refine vM (fun _=>?_) fun _=>?_)
  refine Dr.mk ⟨(.rd 0 (.rd 1 (.rd 2 (.rd 3 (.ef 4 (.ef 5 (.rd 6 (.rd 7 (.rd 8 (.ef 9 (.ef 10 (.rd 11 .dn) .no) .no)))) (.ef 9 (.ef 5 (.rd 6 (.rd 7 (.rd 8 (.ef 10 (.rd 11 .dn) .no)))) .no) .no)) (.ef 9 (.ef 4 (.ef 5 (.rd 6 (.rd 7 (.rd 8 (.ef 10 (.rd 11 .dn) .no)))) .no) .no) .no)))))), by decide +kernel, ?_⟩
  repeat' ((conv=>whnf);first|refine vA ?_|with_reducible first|refine v8 ?_|refine Sp.mk ?_ ?_|refine vS ?_|refine vR ?_|refine vB ?_|refine br_nt ?_|refine br_tt ?_|refine br_ff ?_|refine vP ?_|refine vQ ?_|refine vT ?_|refine vF ?_|refine br_and ?_|refine br_or ?_|refine br_d (fun _=>?_) fun _=>?_|refine vM (fun _=>?_) fun _=>?_)
  all_goals
   refine ⟨_, _, [0], [], rfl, ?_, ?_, ⟨⟨b, q⟩, ⟨ep, eb, er⟩⟩, rfl, rfl, ⟨⟨h1, h2, by dsimp only; omega, by dsimp only; omega⟩, hS⟩, ?_⟩
   ·repeat' ((conv=>whnf);first|with_reducible exact True.intro|exact vW|with_reducible refine And.intro ?_ ?_)
   ·repeat' ((conv=>whnf);first|with_reducible exact True.intro|exact vW|with_reducible refine And.intro ?_ ?_)
   rintro ⟨k, x, y, w⟩ q' q1 q2 ha
   have hAI := ha.I
   have hw : w.size ≤ 1048576 := by have := ha.w0; dsimp only at this; omega
   dsimp only [ded, encD] at q1 q2 ⊢
   repeat' ((conv=>whnf);first|refine vA ?_|with_reducible first|refine v8 ?_|refine Sp.mk ?_ ?_|refine vS ?_|refine vR ?_|refine vB ?_|refine br_nt ?_|refine br_tt ?_|refine br_ff ?_|refine vP ?_|refine vQ ?_|refine vT ?_|refine vF ?_|refine br_and ?_|refine br_or ?_|refine br_d (fun _=>?_) fun _=>?_|refine vM (fun _=>?_) fun _=>?_)
  all_goals
   refine ⟨⟨⟨sa, sb, sc⟩, ⟨k, x, y, w⟩⟩, ?_, ⟨hP, hAI, hw⟩, ?_⟩
   ·repeat' ((conv=>whnf);first|with_reducible exact True.intro|exact vW|with_reducible refine And.intro ?_ ?_)
   have hg2 := act_good hg ⟨k, x, y, w⟩
   dsimp only
   generalize actR ⟨sa, sb, sc⟩ ⟨k, x, y, w⟩ = s2 at hg2 ⊢
   generalize (actS ⟨sa, sb, sc⟩ ⟨k, x, y, w⟩).isSome = o2
   obtain ⟨ta, tb, tc⟩ := s2
   dsimp only [enSt, stC]
   cases o2
   ·repeat' ((conv=>whnf);first|refine vA ?_|with_reducible first|refine v8 ?_|refine Sp.mk ?_ ?_|refine vS ?_|refine vR ?_|refine vB ?_|refine br_nt ?_|refine br_tt ?_|refine br_ff ?_|refine vP ?_|refine vQ ?_|refine vT ?_|refine vF ?_|refine br_and ?_|refine br_or ?_|refine br_d (fun _=>?_) fun _=>?_|refine vM (fun _=>?_) fun _=>?_)
    have hn2 := hg.n
    dsimp only at hn2
    refine ⟨_, _, [0], [], rfl, ?_, ?_, (⟨b, q'⟩, 6), rfl, rfl, ⟨⟨h1, h2, ?_, ?_⟩, ?_⟩, ?_⟩
    ·repeat' ((conv=>whnf);first|with_reducible exact True.intro|exact vW|with_reducible refine And.intro ?_ ?_)
     try exact Chk.mk (by rw [pw_sh (by assumption)])
    ·repeat' ((conv=>whnf);first|with_reducible exact True.intro|exact vW|with_reducible refine And.intro ?_ ?_)
    ·dsimp only; omega
    ·dsimp only; omega
    ·unfold i64r; dsimp only; omega
    intro k2 q2 e0 e1 e2
    dsimp only at e0 e1 e2
    repeat' ((conv=>whnf);first|refine vA ?_|with_reducible first|refine v8 ?_|refine Sp.mk ?_ ?_|refine vS ?_|refine vR ?_|refine vB ?_|refine br_nt ?_|refine br_tt ?_|refine br_ff ?_|refine vP ?_|refine vQ ?_|refine vT ?_|refine vF ?_|refine br_and ?_|refine br_or ?_|refine br_d (fun _=>?_) fun _=>?_|refine vM (fun _=>?_) fun _=>?_)
    ·refine ⟨⟨sa, sb, sc⟩, ?_, ⟨hg.P⟩, ?_⟩
     ·repeat' ((conv=>whnf);first|with_reducible exact True.intro|exact vW|with_reducible refine And.intro ?_ ?_)
     have hg3 := sync_good ⟨sa, sb, sc⟩
     unfold optS
     dsimp only
     generalize (syncS ⟨sa, sb, sc⟩).getD default = s3 at hg3 ⊢
     generalize (syncS ⟨sa, sb, sc⟩).isSome = o3
     obtain ⟨ua, ub, uc⟩ := s3
     dsimp only [enSt, stC]
     repeat' ((conv=>whnf);first|refine vA ?_|with_reducible first|refine v8 ?_|refine Sp.mk ?_ ?_|refine vS ?_|refine vR ?_|refine vB ?_|refine br_nt ?_|refine br_tt ?_|refine br_ff ?_|refine vP ?_|refine vQ ?_|refine vT ?_|refine vF ?_|refine br_and ?_|refine br_or ?_|refine br_d (fun _=>?_) fun _=>?_|refine vM (fun _=>?_) fun _=>?_)
     refine ⟨((⟨ua, ub, uc⟩:Store), j - 1, q2), ⟨by dsimp only; omega, by dsimp only; omega, by dsimp only; omega, by dsimp only; omega, hg3⟩, by dsimp only; omega, ?_⟩
     first | (refine ⟨⟨[some 0, some 1, some 2], [], rfl, rfl, ?_, ?_⟩⟩ <;> (repeat' ((conv=>whnf);first|with_reducible exact True.intro|exact vW|with_reducible refine And.intro ?_ ?_)) <;> fail)
    ·refine Dr.mk ⟨(.rd 0 (.rd 1 (.rd 2 (.rd 3 (.rd 4 (.rd 5 (.ef 6 (.rd 7 (.rd 8 (.rd 9 (.ef 10 .dn .no)))) .no))))))), by decide +kernel, ?_⟩
     repeat' ((conv=>whnf);first|refine vA ?_|with_reducible first|refine v8 ?_|refine Sp.mk ?_ ?_|refine vS ?_|refine vR ?_|refine vB ?_|refine br_nt ?_|refine br_tt ?_|refine br_ff ?_|refine vP ?_|refine vQ ?_|refine vT ?_|refine vF ?_|refine br_and ?_|refine br_or ?_|refine br_d (fun _=>?_) fun _=>?_|refine vM (fun _=>?_) fun _=>?_)
     all_goals
      refine ⟨_, _, [0], [], rfl, ?_, ?_, (⟨b, q2⟩, 20), rfl, rfl, ⟨⟨h1, h2, ?_, ?_⟩, ?_⟩, ?_⟩
      ·repeat' ((conv=>whnf);first|with_reducible exact True.intro|exact vW|with_reducible refine And.intro ?_ ?_)
       try exact Chk.mk (by rw [pw_sh (by assumption)])
      ·repeat' ((conv=>whnf);first|with_reducible exact True.intro|exact vW|with_reducible refine And.intro ?_ ?_)
      ·dsimp only; omega
      ·dsimp only; omega
      ·unfold i64r; dsimp only; omega
      intro k3 q3 f0 f1 f2
      dsimp only at f0 f1 f2
      have f3 := f1 (by decide)
      repeat' ((conv=>whnf);first|refine vA ?_|with_reducible first|refine v8 ?_|refine Sp.mk ?_ ?_|refine vS ?_|refine vR ?_|refine vB ?_|refine br_nt ?_|refine br_tt ?_|refine br_ff ?_|refine vP ?_|refine vQ ?_|refine vT ?_|refine vF ?_|refine br_and ?_|refine br_or ?_|refine br_d (fun _=>?_) fun _=>?_|refine vM (fun _=>?_) fun _=>?_)
     all_goals
      have hg4 : goodS ⟨sa, sb, if sc + k3 < (sb.size : Int) then sc + k3 else (sb.size : Int)⟩ := sure_good hg (by split <;> omega) (by split <;> omega)
      refine ⟨((⟨sa, sb, if sc + k3 < (sb.size : Int) then sc + k3 else (sb.size : Int)⟩:Store), j - 1, q3), ⟨by dsimp only; omega, by dsimp only; omega, by dsimp only; omega, by dsimp only; omega, hg4⟩, by dsimp only; omega, ?_⟩
      first | (refine ⟨⟨[some 0, some 1, some 2], [], rfl, rfl, ?_, ?_⟩⟩ <;> (repeat' ((conv=>whnf);first|with_reducible exact True.intro|exact vW|with_reducible refine And.intro ?_ ?_)) <;> fail)
    ·refine ⟨((⟨sa, sb, sc⟩:Store), j - 1, q2), ⟨by dsimp only; omega, by dsimp only; omega, by dsimp only; omega, by dsimp only; omega, hg⟩, by dsimp only; omega, ?_⟩
     first | (refine ⟨⟨[some 0, some 1, some 2], [], rfl, rfl, ?_, ?_⟩⟩ <;> (repeat' ((conv=>whnf);first|with_reducible exact True.intro|exact vW|with_reducible refine And.intro ?_ ?_)) <;> fail)
   ·repeat' ((conv=>whnf);first|refine vA ?_|with_reducible first|refine v8 ?_|refine Sp.mk ?_ ?_|refine vS ?_|refine vR ?_|refine vB ?_|refine br_nt ?_|refine br_tt ?_|refine br_ff ?_|refine vP ?_|refine vQ ?_|refine vT ?_|refine vF ?_|refine br_and ?_|refine br_or ?_|refine br_d (fun _=>?_) fun _=>?_|refine vM (fun _=>?_) fun _=>?_)
    have hn2 := hg2.n
    dsimp only at hn2
    refine ⟨_, _, [0], [], rfl, ?_, ?_, (⟨b, q'⟩, 6), rfl, rfl, ⟨⟨h1, h2, ?_, ?_⟩, ?_⟩, ?_⟩
    ·repeat' ((conv=>whnf);first|with_reducible exact True.intro|exact vW|with_reducible refine And.intro ?_ ?_)
     try exact Chk.mk (by rw [pw_sh (by assumption)])
    ·repeat' ((conv=>whnf);first|with_reducible exact True.intro|exact vW|with_reducible refine And.intro ?_ ?_)
    ·dsimp only; omega
    ·dsimp only; omega
    ·unfold i64r; dsimp only; omega
    intro k2 q2 e0 e1 e2
    dsimp only at e0 e1 e2
    repeat' ((conv=>whnf);first|refine vA ?_|with_reducible first|refine v8 ?_|refine Sp.mk ?_ ?_|refine vS ?_|refine vR ?_|refine vB ?_|refine br_nt ?_|refine br_tt ?_|refine br_ff ?_|refine vP ?_|refine vQ ?_|refine vT ?_|refine vF ?_|refine br_and ?_|refine br_or ?_|refine br_d (fun _=>?_) fun _=>?_|refine vM (fun _=>?_) fun _=>?_)
    ·refine ⟨⟨ta, tb, tc⟩, ?_, ⟨hg2.P⟩, ?_⟩
     ·repeat' ((conv=>whnf);first|with_reducible exact True.intro|exact vW|with_reducible refine And.intro ?_ ?_)
     have hg3 := sync_good ⟨ta, tb, tc⟩
     unfold optS
     dsimp only
     generalize (syncS ⟨ta, tb, tc⟩).getD default = s3 at hg3 ⊢
     generalize (syncS ⟨ta, tb, tc⟩).isSome = o3
     obtain ⟨ua, ub, uc⟩ := s3
     dsimp only [enSt, stC]
     repeat' ((conv=>whnf);first|refine vA ?_|with_reducible first|refine v8 ?_|refine Sp.mk ?_ ?_|refine vS ?_|refine vR ?_|refine vB ?_|refine br_nt ?_|refine br_tt ?_|refine br_ff ?_|refine vP ?_|refine vQ ?_|refine vT ?_|refine vF ?_|refine br_and ?_|refine br_or ?_|refine br_d (fun _=>?_) fun _=>?_|refine vM (fun _=>?_) fun _=>?_)
     refine ⟨((⟨ua, ub, uc⟩:Store), j - 1, q2), ⟨by dsimp only; omega, by dsimp only; omega, by dsimp only; omega, by dsimp only; omega, hg3⟩, by dsimp only; omega, ?_⟩
     first | (refine ⟨⟨[some 0, some 1, some 2], [], rfl, rfl, ?_, ?_⟩⟩ <;> (repeat' ((conv=>whnf);first|with_reducible exact True.intro|exact vW|with_reducible refine And.intro ?_ ?_)) <;> fail)
    ·refine Dr.mk ⟨(.rd 0 (.rd 1 (.rd 2 (.rd 3 (.rd 4 (.rd 5 (.ef 6 (.rd 7 (.rd 8 (.rd 9 (.ef 10 .dn .no)))) .no))))))), by decide +kernel, ?_⟩
     repeat' ((conv=>whnf);first|refine vA ?_|with_reducible first|refine v8 ?_|refine Sp.mk ?_ ?_|refine vS ?_|refine vR ?_|refine vB ?_|refine br_nt ?_|refine br_tt ?_|refine br_ff ?_|refine vP ?_|refine vQ ?_|refine vT ?_|refine vF ?_|refine br_and ?_|refine br_or ?_|refine br_d (fun _=>?_) fun _=>?_|refine vM (fun _=>?_) fun _=>?_)
     all_goals
      refine ⟨_, _, [0], [], rfl, ?_, ?_, (⟨b, q2⟩, 20), rfl, rfl, ⟨⟨h1, h2, ?_, ?_⟩, ?_⟩, ?_⟩
      ·repeat' ((conv=>whnf);first|with_reducible exact True.intro|exact vW|with_reducible refine And.intro ?_ ?_)
       try exact Chk.mk (by rw [pw_sh (by assumption)])
      ·repeat' ((conv=>whnf);first|with_reducible exact True.intro|exact vW|with_reducible refine And.intro ?_ ?_)
      ·dsimp only; omega
      ·dsimp only; omega
      ·unfold i64r; dsimp only; omega
      intro k3 q3 f0 f1 f2
      dsimp only at f0 f1 f2
      have f3 := f1 (by decide)
      repeat' ((conv=>whnf);first|refine vA ?_|with_reducible first|refine v8 ?_|refine Sp.mk ?_ ?_|refine vS ?_|refine vR ?_|refine vB ?_|refine br_nt ?_|refine br_tt ?_|refine br_ff ?_|refine vP ?_|refine vQ ?_|refine vT ?_|refine vF ?_|refine br_and ?_|refine br_or ?_|refine br_d (fun _=>?_) fun _=>?_|refine vM (fun _=>?_) fun _=>?_)
     all_goals
      have hg4 : goodS ⟨ta, tb, if tc + k3 < (tb.size : Int) then tc + k3 else (tb.size : Int)⟩ := sure_good hg2 (by split <;> omega) (by split <;> omega)
      refine ⟨((⟨ta, tb, if tc + k3 < (tb.size : Int) then tc + k3 else (tb.size : Int)⟩:Store), j - 1, q3), ⟨by dsimp only; omega, by dsimp only; omega, by dsimp only; omega, by dsimp only; omega, hg4⟩, by dsimp only; omega, ?_⟩
      first | (refine ⟨⟨[some 0, some 1, some 2], [], rfl, rfl, ?_, ?_⟩⟩ <;> (repeat' ((conv=>whnf);first|with_reducible exact True.intro|exact vW|with_reducible refine And.intro ?_ ?_)) <;> fail)
    ·refine ⟨((⟨ta, tb, tc⟩:Store), j - 1, q2), ⟨by dsimp only; omega, by dsimp only; omega, by dsimp only; omega, by dsimp only; omega, hg2⟩, by dsimp only; omega, ?_⟩
     first | (refine ⟨⟨[some 0, some 1, some 2], [], rfl, rfl, ?_, ?_⟩⟩ <;> (repeat' ((conv=>whnf);first|with_reducible exact True.intro|exact vW|with_reducible refine And.intro ?_ ?_)) <;> fail)
 ·refine ⟨_, _, [0], [], rfl, ?_, ?_, (⟨b, q⟩, 4), rfl, rfl, ⟨⟨h1, h2, ?_, ?_⟩, ?_⟩, ?_⟩
  ·repeat' ((conv=>whnf);first|with_reducible exact True.intro|exact vW|with_reducible refine And.intro ?_ ?_)
   try exact Chk.mk (by rw [pw_sh (by assumption)])
  ·repeat' ((conv=>whnf);first|with_reducible exact True.intro|exact vW|with_reducible refine And.intro ?_ ?_)
  ·dsimp only; omega
  ·dsimp only; omega
  ·unfold i64r; dsimp only; omega
  intro k4 q4 d0 d1 d2
  dsimp only at d0 d1 d2
  repeat' ((conv=>whnf);first|refine vA ?_|with_reducible first|refine v8 ?_|refine Sp.mk ?_ ?_|refine vS ?_|refine vR ?_|refine vB ?_|refine br_nt ?_|refine br_tt ?_|refine br_ff ?_|refine vP ?_|refine vQ ?_|refine vT ?_|refine vF ?_|refine br_and ?_|refine br_or ?_|refine br_d (fun _=>?_) fun _=>?_|refine vM (fun _=>?_) fun _=>?_)
  ·refine Dr.mk ⟨(.rd 0 (.rd 1 (.rd 2 (.rd 3 (.rd 4 (.rd 5 (.rd 6 (.rd 7 (.rd 8 (.rd 9 (.rd 10 (.ef 11 (.rd 12 (.ef 13 (.rd 14 (.rd 15 (.rd 16 (.ef 17 .dn .no)))) .no)) .no)))))))))))), by decide +kernel, ?_⟩
   repeat' ((conv=>whnf);first|refine vA ?_|with_reducible first|refine v8 ?_|refine Sp.mk ?_ ?_|refine vS ?_|refine vR ?_|refine vB ?_|refine br_nt ?_|refine br_tt ?_|refine br_ff ?_|refine vP ?_|refine vQ ?_|refine vT ?_|refine vF ?_|refine br_and ?_|refine br_or ?_|refine br_d (fun _=>?_) fun _=>?_|refine vM (fun _=>?_) fun _=>?_)
   all_goals
    refine ⟨_, _, [0], [], rfl, ?_, ?_, (⟨b, q4⟩, (sb.size : Int) - sc + 1), rfl, rfl, ⟨⟨h1, h2, ?_, ?_⟩, ?_⟩, ?_⟩
    ·repeat' ((conv=>whnf);first|with_reducible exact True.intro|exact vW|with_reducible refine And.intro ?_ ?_)
     try exact Chk.mk (by rw [pw_sh (by assumption)])
    ·repeat' ((conv=>whnf);first|with_reducible exact True.intro|exact vW|with_reducible refine And.intro ?_ ?_)
    ·dsimp only; omega
    ·dsimp only; omega
    ·unfold i64r; dsimp only; omega
    intro k5 q5 e0 e1 e2
    dsimp only at e0 e1 e2
    have e3 := e1 (by omega)
    repeat' ((conv=>whnf);first|refine vA ?_|with_reducible first|refine v8 ?_|refine Sp.mk ?_ ?_|refine vS ?_|refine vR ?_|refine vB ?_|refine br_nt ?_|refine br_tt ?_|refine br_ff ?_|refine vP ?_|refine vQ ?_|refine vT ?_|refine vF ?_|refine br_and ?_|refine br_or ?_|refine br_d (fun _=>?_) fun _=>?_|refine vM (fun _=>?_) fun _=>?_)
   all_goals
    refine ⟨(⟨sa, sb, sc⟩, sc + k5), ?_, ⟨hP, by unfold i64r; dsimp only; omega⟩, ?_⟩
    ·repeat' ((conv=>whnf);first|with_reducible exact True.intro|exact vW|with_reducible refine And.intro ?_ ?_)
    have hg3 := crash_good ⟨sa, sb, sc⟩ (sc + k5)
    unfold optS
    dsimp only
    generalize (crashS ⟨sa, sb, sc⟩ (sc + k5)).getD default = s3 at hg3 ⊢
    generalize (crashS ⟨sa, sb, sc⟩ (sc + k5)).isSome = o3
    obtain ⟨ua, ub, uc⟩ := s3
    dsimp only [enSt, stC]
    repeat' ((conv=>whnf);first|refine vA ?_|with_reducible first|refine v8 ?_|refine Sp.mk ?_ ?_|refine vS ?_|refine vR ?_|refine vB ?_|refine br_nt ?_|refine br_tt ?_|refine br_ff ?_|refine vP ?_|refine vQ ?_|refine vT ?_|refine vF ?_|refine br_and ?_|refine br_or ?_|refine br_d (fun _=>?_) fun _=>?_|refine vM (fun _=>?_) fun _=>?_)
    have hn3 := hg3.n
    dsimp only at hn3
    refine ⟨_, _, [0], [], rfl, ?_, ?_, (⟨b, q5⟩, n), rfl, rfl, ⟨⟨h1, h2, by dsimp only; omega, by dsimp only; omega⟩, h5⟩, ?_⟩
    ·repeat' ((conv=>whnf);first|with_reducible exact True.intro|exact vW|with_reducible refine And.intro ?_ ?_)
    ·repeat' ((conv=>whnf);first|with_reducible exact True.intro|exact vW|with_reducible refine And.intro ?_ ?_)
    intro v p6 v1 v2
    dsimp only at v1 v2 ⊢
    repeat' ((conv=>whnf);first|refine vA ?_|with_reducible first|refine v8 ?_|refine Sp.mk ?_ ?_|refine vS ?_|refine vR ?_|refine vB ?_|refine br_nt ?_|refine br_tt ?_|refine br_ff ?_|refine vP ?_|refine vQ ?_|refine vT ?_|refine vF ?_|refine br_and ?_|refine br_or ?_|refine br_d (fun _=>?_) fun _=>?_|refine vM (fun _=>?_) fun _=>?_)
    ·refine ⟨_, _, [0], [], rfl, ?_, ?_, (⟨b, p6⟩, 3), rfl, rfl, ⟨⟨h1, h2, ?_, ?_⟩, ?_⟩, ?_⟩
     ·repeat' ((conv=>whnf);first|with_reducible exact True.intro|exact vW|with_reducible refine And.intro ?_ ?_)
      try exact Chk.mk (by rw [pw_sh (by assumption)])
     ·repeat' ((conv=>whnf);first|with_reducible exact True.intro|exact vW|with_reducible refine And.intro ?_ ?_)
     ·dsimp only; omega
     ·dsimp only; omega
     ·unfold i64r; dsimp only; omega
     intro k7 p7 f0 f1 f2
     dsimp only at f0 f1 f2
     repeat' ((conv=>whnf);first|refine vA ?_|with_reducible first|refine v8 ?_|refine Sp.mk ?_ ?_|refine vS ?_|refine vR ?_|refine vB ?_|refine br_nt ?_|refine br_tt ?_|refine br_ff ?_|refine vP ?_|refine vQ ?_|refine vT ?_|refine vF ?_|refine br_and ?_|refine br_or ?_|refine br_d (fun _=>?_) fun _=>?_|refine vM (fun _=>?_) fun _=>?_)
     ·refine ⟨_, _, [0], [], rfl, ?_, ?_, ⟨⟨b, p7⟩, ua⟩, rfl, rfl, ⟨⟨h1, h2, by dsimp only; omega, by dsimp only; omega⟩, by dsimp only; omega⟩, ?_⟩
      ·repeat' ((conv=>whnf);first|with_reducible exact True.intro|exact vW|with_reducible refine And.intro ?_ ?_)
      ·repeat' ((conv=>whnf);first|with_reducible exact True.intro|exact vW|with_reducible refine And.intro ?_ ?_)
      intro u p8 u1 u2 u3
      dsimp only at u1 u2 u3 ⊢
      repeat' ((conv=>whnf);first|refine vA ?_|with_reducible first|refine v8 ?_|refine Sp.mk ?_ ?_|refine vS ?_|refine vR ?_|refine vB ?_|refine br_nt ?_|refine br_tt ?_|refine br_ff ?_|refine vP ?_|refine vQ ?_|refine vT ?_|refine vF ?_|refine br_and ?_|refine br_or ?_|refine br_d (fun _=>?_) fun _=>?_|refine vM (fun _=>?_) fun _=>?_)
      refine ⟨_, _, [some 0], [], rfl, rfl, ?_, ?_, h ⟨u, ub, uc⟩ p8 (by omega) (by omega) ⟨by dsimp only; omega, by dsimp only; omega, by dsimp only; omega, by dsimp only; omega⟩⟩
      ·repeat' ((conv=>whnf);first|with_reducible exact True.intro|exact vW|with_reducible refine And.intro ?_ ?_)
      ·repeat' ((conv=>whnf);first|with_reducible exact True.intro|exact vW|with_reducible refine And.intro ?_ ?_)
     ·refine ⟨_, _, [some 0], [], rfl, rfl, ?_, ?_, h ⟨ua, ub, ub.size + 1⟩ p7 (by omega) (by omega) ⟨by dsimp only; omega, by dsimp only; omega, by dsimp only; omega, by dsimp only; omega⟩⟩
      ·repeat' ((conv=>whnf);first|with_reducible exact True.intro|exact vW|with_reducible refine And.intro ?_ ?_)
      ·repeat' ((conv=>whnf);first|with_reducible exact True.intro|exact vW|with_reducible refine And.intro ?_ ?_)
     ·refine ⟨_, _, [0], [], rfl, ?_, ?_, ⟨⟨b, p7⟩, ub⟩, rfl, rfl, ⟨⟨h1, h2, by dsimp only; omega, by dsimp only; omega⟩, by dsimp only; omega⟩, ?_⟩
      ·repeat' ((conv=>whnf);first|with_reducible exact True.intro|exact vW|with_reducible refine And.intro ?_ ?_)
      ·repeat' ((conv=>whnf);first|with_reducible exact True.intro|exact vW|with_reducible refine And.intro ?_ ?_)
      intro u p8 u1 u2 u3
      dsimp only at u1 u2 u3 ⊢
      repeat' ((conv=>whnf);first|refine vA ?_|with_reducible first|refine v8 ?_|refine Sp.mk ?_ ?_|refine vS ?_|refine vR ?_|refine vB ?_|refine br_nt ?_|refine br_tt ?_|refine br_ff ?_|refine vP ?_|refine vQ ?_|refine vT ?_|refine vF ?_|refine br_and ?_|refine br_or ?_|refine br_d (fun _=>?_) fun _=>?_|refine vM (fun _=>?_) fun _=>?_)
      refine ⟨_, _, [some 0], [], rfl, rfl, ?_, ?_, h ⟨ua, u, uc⟩ p8 (by omega) (by omega) ⟨by dsimp only; omega, by dsimp only; omega, by dsimp only; omega, by dsimp only; omega⟩⟩
      ·repeat' ((conv=>whnf);first|with_reducible exact True.intro|exact vW|with_reducible refine And.intro ?_ ?_)
      ·repeat' ((conv=>whnf);first|with_reducible exact True.intro|exact vW|with_reducible refine And.intro ?_ ?_)
    ·refine ⟨_, _, [some 0], [], rfl, rfl, ?_, ?_, h ⟨ua, ub, uc⟩ p6 (by omega) (by omega) hg3.d⟩
     ·repeat' ((conv=>whnf);first|with_reducible exact True.intro|exact vW|with_reducible refine And.intro ?_ ?_)
     ·repeat' ((conv=>whnf);first|with_reducible exact True.intro|exact vW|with_reducible refine And.intro ?_ ?_)
  ·have hn3 := hg.n
   dsimp only at hn3
   refine ⟨_, _, [0], [], rfl, ?_, ?_, (⟨b, q4⟩, n), rfl, rfl, ⟨⟨h1, h2, by dsimp only; omega, by dsimp only; omega⟩, h5⟩, ?_⟩
   ·repeat' ((conv=>whnf);first|with_reducible exact True.intro|exact vW|with_reducible refine And.intro ?_ ?_)
   ·repeat' ((conv=>whnf);first|with_reducible exact True.intro|exact vW|with_reducible refine And.intro ?_ ?_)
   intro v p6 v1 v2
   dsimp only at v1 v2 ⊢
   repeat' ((conv=>whnf);first|refine vA ?_|with_reducible first|refine v8 ?_|refine Sp.mk ?_ ?_|refine vS ?_|refine vR ?_|refine vB ?_|refine br_nt ?_|refine br_tt ?_|refine br_ff ?_|refine vP ?_|refine vQ ?_|refine vT ?_|refine vF ?_|refine br_and ?_|refine br_or ?_|refine br_d (fun _=>?_) fun _=>?_|refine vM (fun _=>?_) fun _=>?_)
   ·refine ⟨_, _, [0], [], rfl, ?_, ?_, (⟨b, p6⟩, 3), rfl, rfl, ⟨⟨h1, h2, ?_, ?_⟩, ?_⟩, ?_⟩
    ·repeat' ((conv=>whnf);first|with_reducible exact True.intro|exact vW|with_reducible refine And.intro ?_ ?_)
     try exact Chk.mk (by rw [pw_sh (by assumption)])
    ·repeat' ((conv=>whnf);first|with_reducible exact True.intro|exact vW|with_reducible refine And.intro ?_ ?_)
    ·dsimp only; omega
    ·dsimp only; omega
    ·unfold i64r; dsimp only; omega
    intro k7 p7 f0 f1 f2
    dsimp only at f0 f1 f2
    repeat' ((conv=>whnf);first|refine vA ?_|with_reducible first|refine v8 ?_|refine Sp.mk ?_ ?_|refine vS ?_|refine vR ?_|refine vB ?_|refine br_nt ?_|refine br_tt ?_|refine br_ff ?_|refine vP ?_|refine vQ ?_|refine vT ?_|refine vF ?_|refine br_and ?_|refine br_or ?_|refine br_d (fun _=>?_) fun _=>?_|refine vM (fun _=>?_) fun _=>?_)
    ·refine ⟨_, _, [0], [], rfl, ?_, ?_, ⟨⟨b, p7⟩, sa⟩, rfl, rfl, ⟨⟨h1, h2, by dsimp only; omega, by dsimp only; omega⟩, by dsimp only; omega⟩, ?_⟩
     ·repeat' ((conv=>whnf);first|with_reducible exact True.intro|exact vW|with_reducible refine And.intro ?_ ?_)
     ·repeat' ((conv=>whnf);first|with_reducible exact True.intro|exact vW|with_reducible refine And.intro ?_ ?_)
     intro u p8 u1 u2 u3
     dsimp only at u1 u2 u3 ⊢
     repeat' ((conv=>whnf);first|refine vA ?_|with_reducible first|refine v8 ?_|refine Sp.mk ?_ ?_|refine vS ?_|refine vR ?_|refine vB ?_|refine br_nt ?_|refine br_tt ?_|refine br_ff ?_|refine vP ?_|refine vQ ?_|refine vT ?_|refine vF ?_|refine br_and ?_|refine br_or ?_|refine br_d (fun _=>?_) fun _=>?_|refine vM (fun _=>?_) fun _=>?_)
     refine ⟨_, _, [some 0], [], rfl, rfl, ?_, ?_, h ⟨u, sb, sc⟩ p8 (by omega) (by omega) ⟨by dsimp only; omega, by dsimp only; omega, by dsimp only; omega, by dsimp only; omega⟩⟩
     ·repeat' ((conv=>whnf);first|with_reducible exact True.intro|exact vW|with_reducible refine And.intro ?_ ?_)
     ·repeat' ((conv=>whnf);first|with_reducible exact True.intro|exact vW|with_reducible refine And.intro ?_ ?_)
    ·refine ⟨_, _, [some 0], [], rfl, rfl, ?_, ?_, h ⟨sa, sb, sb.size + 1⟩ p7 (by omega) (by omega) ⟨by dsimp only; omega, by dsimp only; omega, by dsimp only; omega, by dsimp only; omega⟩⟩
     ·repeat' ((conv=>whnf);first|with_reducible exact True.intro|exact vW|with_reducible refine And.intro ?_ ?_)
     ·repeat' ((conv=>whnf);first|with_reducible exact True.intro|exact vW|with_reducible refine And.intro ?_ ?_)
    ·refine ⟨_, _, [0], [], rfl, ?_, ?_, ⟨⟨b, p7⟩, sb⟩, rfl, rfl, ⟨⟨h1, h2, by dsimp only; omega, by dsimp only; omega⟩, by dsimp only; omega⟩, ?_⟩
     ·repeat' ((conv=>whnf);first|with_reducible exact True.intro|exact vW|with_reducible refine And.intro ?_ ?_)
     ·repeat' ((conv=>whnf);first|with_reducible exact True.intro|exact vW|with_reducible refine And.intro ?_ ?_)
     intro u p8 u1 u2 u3
     dsimp only at u1 u2 u3 ⊢
     repeat' ((conv=>whnf);first|refine vA ?_|with_reducible first|refine v8 ?_|refine Sp.mk ?_ ?_|refine vS ?_|refine vR ?_|refine vB ?_|refine br_nt ?_|refine br_tt ?_|refine br_ff ?_|refine vP ?_|refine vQ ?_|refine vT ?_|refine vF ?_|refine br_and ?_|refine br_or ?_|refine br_d (fun _=>?_) fun _=>?_|refine vM (fun _=>?_) fun _=>?_)
     refine ⟨_, _, [some 0], [], rfl, rfl, ?_, ?_, h ⟨sa, u, sc⟩ p8 (by omega) (by omega) ⟨by dsimp only; omega, by dsimp only; omega, by dsimp only; omega, by dsimp only; omega⟩⟩
     ·repeat' ((conv=>whnf);first|with_reducible exact True.intro|exact vW|with_reducible refine And.intro ?_ ?_)
     ·repeat' ((conv=>whnf);first|with_reducible exact True.intro|exact vW|with_reducible refine And.intro ?_ ?_)
   ·refine ⟨_, _, [some 0], [], rfl, rfl, ?_, ?_, h ⟨sa, sb, sc⟩ p6 (by omega) (by omega) hg.d⟩
    ·repeat' ((conv=>whnf);first|with_reducible exact True.intro|exact vW|with_reducible refine And.intro ?_ ?_)
    ·repeat' ((conv=>whnf);first|with_reducible exact True.intro|exact vW|with_reducible refine And.intro ?_ ?_)
end Go.Proofs.YtkafoolhbflfkaaGreatDoor.Vc
end
section
/- Part YDD: what the draws of stores yield. -/
namespace Go.Proofs.YtkafoolhbflfkaaGreatDoor.Vc
open Go.Proofs
set_option maxRecDepth 100000
set_option maxHeartbeats 4000000
def C289 : List AV → (AV → Prop) → Prop := con (X := List Int) (fun l => [slB l]) bytesI fun _ K => ∀ s : Store, drawnS s → K (enSt s)
def C294 := C289
theorem F294 : FF 40 C294 := by
 refine fitX [] (by simp) [(59, C42), (58, C288)] (by simp only [List.mem_cons, List.not_mem_nil, or_false]; rintro _ (rfl | rfl) <;> first | exact F42 | exact F288) Tryz.f40 ⟨rfl, by decide +kernel, by decide +kernel⟩ (fun _ _ _ hk h s hs => hk _ (h s hs)) ?_
 rintro l K hl h
 refine ⟨Nat.le_of_ble_eq_true rfl, ?_⟩
 repeat' ((conv=>whnf);first|refine vA ?_|with_reducible first|refine v8 ?_|refine Sp.mk ?_ ?_|refine vS ?_|refine vR ?_|refine vB ?_|refine br_nt ?_|refine br_tt ?_|refine br_ff ?_|refine vP ?_|refine vQ ?_|refine vT ?_|refine vF ?_|refine br_and ?_|refine br_or ?_|refine br_d (fun _=>?_) fun _=>?_|refine vM (fun _=>?_) fun _=>?_)
 refine ⟨_, _, [], [], rfl, ?_, ?_, l, rfl, rfl, ⟨hl⟩, ?_⟩
 ·repeat' ((conv=>whnf);first|with_reducible exact True.intro|exact vW|with_reducible refine And.intro ?_ ?_)
 ·repeat' ((conv=>whnf);first|with_reducible exact True.intro|exact vW|with_reducible refine And.intro ?_ ?_)
 intro b hb
 dsimp only
 repeat' ((conv=>whnf);first|refine vA ?_|with_reducible first|refine v8 ?_|refine Sp.mk ?_ ?_|refine vS ?_|refine vR ?_|refine vB ?_|refine br_nt ?_|refine br_tt ?_|refine br_ff ?_|refine vP ?_|refine vQ ?_|refine vT ?_|refine vF ?_|refine br_and ?_|refine br_or ?_|refine br_d (fun _=>?_) fun _=>?_|refine vM (fun _=>?_) fun _=>?_)
 refine ⟨_, _, [1], [], rfl, ?_, ?_, (⟨b, 0⟩, 9), rfl, rfl, ⟨⟨hb.1, hb.2.1, by dsimp only; omega, by dsimp only; omega⟩, by unfold i64r; dsimp only; omega⟩, ?_⟩
 ·repeat' ((conv=>whnf);first|with_reducible exact True.intro|exact vW|with_reducible refine And.intro ?_ ?_)
 ·repeat' ((conv=>whnf);first|with_reducible exact True.intro|exact vW|with_reducible refine And.intro ?_ ?_)
 intro s p' _ _ hs
 repeat' ((conv=>whnf);first|refine vA ?_|with_reducible first|refine v8 ?_|refine Sp.mk ?_ ?_|refine vS ?_|refine vR ?_|refine vB ?_|refine br_nt ?_|refine br_tt ?_|refine br_ff ?_|refine vP ?_|refine vQ ?_|refine vT ?_|refine vF ?_|refine br_and ?_|refine br_or ?_|refine br_d (fun _=>?_) fun _=>?_|refine vM (fun _=>?_) fun _=>?_)
 exact h s hs
def C296 := C289
theorem F296 : FF 49 C296 := by
 refine fitX [] (by simp) [(59, C42), (58, C288)] (by simp only [List.mem_cons, List.not_mem_nil, or_false]; rintro _ (rfl | rfl) <;> first | exact F42 | exact F288) Tryz.f49 ⟨rfl, by decide +kernel, by decide +kernel⟩ (fun _ _ _ hk h s hs => hk _ (h s hs)) ?_
 rintro l K hl h
 refine ⟨Nat.le_of_ble_eq_true rfl, ?_⟩
 repeat' ((conv=>whnf);first|refine vA ?_|with_reducible first|refine v8 ?_|refine Sp.mk ?_ ?_|refine vS ?_|refine vR ?_|refine vB ?_|refine br_nt ?_|refine br_tt ?_|refine br_ff ?_|refine vP ?_|refine vQ ?_|refine vT ?_|refine vF ?_|refine br_and ?_|refine br_or ?_|refine br_d (fun _=>?_) fun _=>?_|refine vM (fun _=>?_) fun _=>?_)
 refine ⟨_, _, [], [], rfl, ?_, ?_, l, rfl, rfl, ⟨hl⟩, ?_⟩
 ·repeat' ((conv=>whnf);first|with_reducible exact True.intro|exact vW|with_reducible refine And.intro ?_ ?_)
 ·repeat' ((conv=>whnf);first|with_reducible exact True.intro|exact vW|with_reducible refine And.intro ?_ ?_)
 intro b hb
 dsimp only
 repeat' ((conv=>whnf);first|refine vA ?_|with_reducible first|refine v8 ?_|refine Sp.mk ?_ ?_|refine vS ?_|refine vR ?_|refine vB ?_|refine br_nt ?_|refine br_tt ?_|refine br_ff ?_|refine vP ?_|refine vQ ?_|refine vT ?_|refine vF ?_|refine br_and ?_|refine br_or ?_|refine br_d (fun _=>?_) fun _=>?_|refine vM (fun _=>?_) fun _=>?_)
 refine ⟨_, _, [1], [], rfl, ?_, ?_, (⟨b, 0⟩, 6), rfl, rfl, ⟨⟨hb.1, hb.2.1, by dsimp only; omega, by dsimp only; omega⟩, by unfold i64r; dsimp only; omega⟩, ?_⟩
 ·repeat' ((conv=>whnf);first|with_reducible exact True.intro|exact vW|with_reducible refine And.intro ?_ ?_)
 ·repeat' ((conv=>whnf);first|with_reducible exact True.intro|exact vW|with_reducible refine And.intro ?_ ?_)
 intro s p' _ _ hs
 repeat' ((conv=>whnf);first|refine vA ?_|with_reducible first|refine v8 ?_|refine Sp.mk ?_ ?_|refine vS ?_|refine vR ?_|refine vB ?_|refine br_nt ?_|refine br_tt ?_|refine br_ff ?_|refine vP ?_|refine vQ ?_|refine vT ?_|refine vF ?_|refine br_and ?_|refine br_or ?_|refine br_d (fun _=>?_) fun _=>?_|refine vM (fun _=>?_) fun _=>?_)
 exact h s hs
end Go.Proofs.YtkafoolhbflfkaaGreatDoor.Vc
end
section
/- Part ZT0: duals, plain (as ZT, for seats without swings). -/
namespace Go.Proofs.YtkafoolhbflfkaaGreatDoor.Vc
set_option maxRecDepth 10000
set_option maxHeartbeats 4000000
theorem pop_full : ∀ p, p < 7 → ∀ b, b < 2 ^ p → band (b : Nat) ((2 ^ p - 1 : Nat) : Int) = b := by decide +kernel
def full (p : Int) : Int := pw p - 1
theorem pw_nat {p : Int} (h : people p) : pw p = ((2 ^ p.toNat : Nat) : Int) := by
 rcases people_cases h with rfl | rfl | rfl | rfl | rfl | rfl <;> rfl
def dualM (bs : List Int) (m : Mark) : Mark := if m.kind = 0 then ⟨0, m.at_, heads (bs.getD m.at_.toNat 0).toNat + 1 - m.need⟩ else if m.kind = 1 then ⟨2, m.at_, m.need⟩ else ⟨1, m.at_, m.need⟩
def dualT (bs : List Int) (t : List Mark) : List Mark := t.map (dualM bs)
theorem stepP_dual {bs : List Int} {m : Mark} {k j : Nat} (h : stepP bs m k = some j) : stepP bs (dualM bs m) k = some j := by
 obtain ⟨kd, a, n⟩ := m
 unfold stepP dualM at *
 dsimp only at h ⊢
 split at h
 ·rename_i g
  injection h with h
  rw [if_pos g.1]
  dsimp only
  rw [if_pos (by omega), h]
 ·rename_i g
  split at h
  ·rename_i g2
   injection h with h
   rw [if_neg (show ¬ kd = 0 by omega)]
   by_cases hk : kd = 1
   ·rw [if_pos hk]; dsimp only; rw [if_neg (by omega), if_pos (by omega), h]
   ·rw [if_neg hk]; dsimp only; rw [if_neg (by omega), if_pos (by omega), h]
  ·cases h
theorem walkP_dual {bs : List Int} : ∀ (t : List Mark) (k j : Nat), walkP bs t k = some j → walkP bs (dualT bs t) k = some j
 |[], k, j, h => h
 |m :: t, k, j, h => by
  simp only [walkP] at h
  cases e : stepP bs m k with
  |none => rw [e] at h; cases h
  |some i =>
   rw [e] at h
   show walkP bs (dualM bs m :: dualT bs t) k = some j
   simp only [walkP]
   rw [stepP_dual e]
   exact walkP_dual t i j h
theorem termOk_dual {p : Int} {bs : List Int} {t : List Mark} (h : termOk ⟨p, bs⟩ t) : termOk ⟨p, bs⟩ (dualT bs t) :=
 ⟨h.1, by show (dualT bs t).length ≤ 9; rw [dualT, List.length_map]; exact h.2.1, walkP_dual t 0 1 h.2.2⟩
def goodM (bs : List Int) (m : Mark) : Prop := (m.kind = 0 ∧ 0 ≤ m.at_ ∧ m.at_ < bs.length ∧ 1 ≤ m.need ∧ m.need ≤ heads (bs.getD m.at_.toNat 0).toNat) ∨ m.kind = 1 ∨ m.kind = 2
theorem walk_good {bs : List Int} : ∀ (t : List Mark) (k j : Nat), walkP bs t k = some j → ∀ m ∈ t, goodM bs m
 |[], _, _, _, m, hm => by cases hm
 |x :: t, k, j, h, m, hm => by
  simp only [walkP] at h
  cases e : stepP bs x k with
  |none => rw [e] at h; cases h
  |some i =>
   rw [e] at h
   rcases List.mem_cons.1 hm with rfl | hm
   ·unfold stepP at e
    split at e
    ·rename_i g; exact .inl g
    ·split at e
     ·rename_i g; exact .inr g.1
     ·cases e
   ·exact walk_good t i j h m hm
section
variable {p : Int} {bs : List Int}
theorem body_ok (hb : ∀ b ∈ bs, crowd p b ∧ b ≠ 0) {m : Mark} (h1 : 0 ≤ m.at_) (h2 : m.at_ < bs.length) : crowd p (bs.getD m.at_.toNat 0) := (hb _ (getD_mem' (by omega))).1
theorem says_const {t : List Mark} (ht : termOk ⟨p, bs⟩ t) {c : Int} {v : Bool} (hc : ∀ m, goodM bs m → m.kind = 0 → cnt bs c m = v) : says bs c t = v := by
 have key : ∀ (t : List Mark) (s : List Bool), (∀ m ∈ t, goodM bs m) → (∀ x ∈ s, x = v) → ∀ x ∈ runS bs c t s, x = v := by
  intro t
  induction t with
  |nil => exact fun s _ h => h
  |cons m t ih =>
   intro s hg hs
   refine ih _ (fun x hx => hg x (List.mem_cons_of_mem _ hx)) ?_
   unfold stepS
   by_cases hk : m.kind = 0
   ·rw [if_pos hk]
    intro x hx
    rcases List.mem_cons.1 hx with rfl | hx
    ·exact hc m (hg m List.mem_cons_self) hk
    ·exact hs x hx
   ·rw [if_neg hk]
    match s with
    |[] => exact hs
    |[_] => exact hs
    |b :: a :: r =>
     intro x hx
     have h1 := hs b List.mem_cons_self
     have h2 := hs a (List.mem_cons_of_mem _ List.mem_cons_self)
     rcases List.mem_cons.1 hx with rfl | hx
     ·rw [h1, h2]; split <;> cases v <;> rfl
     ·exact hs x (List.mem_cons_of_mem _ (List.mem_cons_of_mem _ hx))
 have f := (runS_frame (bs := bs) (c := c) t [] [] 1 ht.2.2).2
 have k := key t [] (walk_good t 0 1 ht.2.2) (fun x hx => by cases hx)
 unfold says
 revert f k
 match runS bs c t [] with
 |[] => intro f; cases f
 |x :: r => intro f k; exact k x List.mem_cons_self
theorem says_full {t : List Mark} (ht : termOk ⟨p, bs⟩ t) : says bs (full p) t = true := says_const ht fun m hm hk => by
 rcases hm with ⟨_, g1, g2, g3, g4⟩ | g | g <;> try omega
 obtain ⟨hp, k1, k2⟩ := body_ok (p := p) (bs := bs) ht.1.2.2 g1 g2
 have pl := pw_le hp
 have pn := pw_nat hp
 have hp6 : p.toNat < 7 := by have := hp.2; omega
 unfold cnt
 generalize hB : bs.getD m.at_.toNat 0 = B at g4 k1 k2
 have := pop_full p.toNat hp6 B.toNat (by omega)
 rw [Int.toNat_of_nonneg k1, show ((2 ^ p.toNat - 1 : Nat) : Int) = full p by unfold full; omega] at this
 rw [this, decide_eq_true_eq]
 omega
end
end Go.Proofs.YtkafoolhbflfkaaGreatDoor.Vc
end
section
/- Part YL: laws on stores: plain. -/
namespace Go.Proofs.YtkafoolhbflfkaaGreatDoor.Vc
open Go.Proofs
set_option maxRecDepth 10000
set_option maxHeartbeats 4000000
/-! ### Texts of terms are short -/
theorem join2_len {k : Int} {a b : Pt} : (join2 k a b).s.size ≤ a.s.size + b.s.size + 5 := by
 have w : ∀ (s : ByteArray) (o : Bool), (wrapT s o).size ≤ s.size + 2 := fun s o => by
  unfold wrapT
  split
  ·rw [ByteArray.size_append, ByteArray.size_append]; show 1 + s.size + 1 ≤ _; omega
  ·omega
 unfold join2
 split
 ·have := w b.s b.o
  dsimp only
  rw [ByteArray.size_append, ByteArray.size_append]
  show a.s.size + 1 + _ ≤ _
  omega
 ·have := w b.s (decide (b.n > 1))
  have := w a.s a.o
  dsimp only
  rw [ByteArray.size_append, ByteArray.size_append]
  show _ + 1 + _ ≤ _
  omega
theorem tr_size {bs : List Int} (hb : bodies bs) {t : List Mark} (h : Tr bs t) : (partT t).s.size + 1 ≤ 4 * t.length := by
 induction h with
 |leaf m hk h =>
  rw [partT_leaf hk]
  obtain ⟨_, _, g3, g4⟩ := leaf_in hb hk h
  have := num_size (n := m.need) (by omega) (by omega)
  show (letter m.at_ ++ num m.need).size + 1 ≤ 4 * 1
  rw [ByteArray.size_append]
  show 1 + _ + 1 ≤ _
  omega
 |node l r k hk h1 h2 g1 g2 =>
  rw [partT_node h1.one h2.one (by dsimp only; omega)]
  have := join2_len (k := k) (a := partT l) (b := partT r)
  simp only [List.length_append, List.length_cons, List.length_nil]
  omega
theorem textT_size {h : House} {t : List Mark} (ht : termOk h t) : (textT t).size ≤ 35 := by
 have h1 := tr_size (bodies_of ht.1) (Tr.of ht.2.2)
 have h2 := ht.2.1
 unfold textT
 omega
theorem plainW_of {w : ByteArray} (h : w ≠ ⟨#[]⟩) (hv : visB w) : plainW w = true := by
 unfold plainW spc
 rw [containsAny_eq]
 simp only [Bool.and_eq_true, decide_eq_true_eq, Bool.not_eq_true', List.any_eq_false]
 refine ⟨h, fun c hc q => ?_⟩
 have h33 := hv c hc
 have q' : c = 32 ∨ c = 10 := by simpa [sn] using q
 rcases q' with rfl | rfl
 ·exact absurd h33 (by decide)
 ·exact absurd h33 (by decide)
/-! ### The dual of the first rule can be put in its place, if it is another -/
theorem dual_read {x : Place} {t : List Mark} (ht : rdT 49 x.h (x.rules.getD 0 ⟨#[]⟩) = some t) : termOk x.h (dualT x.bs t) ∧ bad x.h (textT (dualT x.bs t)) = false := by
 have h1 := ((rdT_iff (by decide)).1 ht).2.1
 have h2 : termOk x.h (dualT x.bs t) := termOk_dual (p := x.p) (bs := x.bs) h1
 refine ⟨h2, ?_⟩
 unfold bad
 rw [(rdT_iff (by decide)).2 ⟨Nat.le_trans (textT_size h2) (by decide), h2, rfl⟩]
 rfl
theorem dual_can {d : Desk} (hd : deskOk d) {t : List Mark} (ht : rdT 49 d.now.h (d.now.rules.getD 0 ⟨#[]⟩) = some t) (hne : textT (dualT d.now.bs t) ≠ d.now.rules.getD 0 ⟨#[]⟩) :
  (doD d ⟨2, 0, pw d.now.p - 1, textT (dualT d.now.bs t)⟩).isSome = true ∧ okDd ⟨2, 0, pw d.now.p - 1, textT (dualT d.now.bs t)⟩ := by
 have hx := hd.1
 obtain ⟨h1, h2⟩ := dual_read ht
 have ht2 := ((rdT_iff (by decide)).1 ht).2.1
 have pp : people d.now.p := h1.1.1
 have hp := pw_le pp
 have hr := hx.2.1.1
 have hc : consR d.now 0 (pw d.now.p - 1) = true := by
  unfold consR
  rw [if_pos ⟨by omega, by omega⟩, show (0 : Int).toNat = 0 from rfl, ht]
  dsimp only
  rw [decide_eq_true (⟨pp, by omega, by omega⟩ : crowd d.now.p (pw d.now.p - 1)), Bool.true_and]
  exact says_full ht2
 generalize textT (dualT d.now.bs t) = w at h2 hne ⊢
 have hm : madeP d.now ⟨2, 0, pw d.now.p - 1, w⟩ = ⟨d.now.p, d.now.bs, d.now.rules.set 0 w⟩ := made_2 (x := d.now) (k := 2) (a := 0) (b := pw d.now.p - 1) (w := w) rfl hc
 have hpl : placeOk ⟨d.now.p, d.now.bs, d.now.rules.set 0 w⟩ := by
  refine ⟨hx.1, ?_, fun r q => ?_⟩
  ·dsimp only
   rw [List.length_set]
   exact hx.2.1
  ·rcases List.mem_or_eq_of_mem_set q with q | rfl
   ·exact hx.2.2 r q
   ·exact h2
 refine ⟨?_, ⟨⟨Int.le_refl 0, by dsimp only; omega⟩, ⟨by dsimp only; omega, by dsimp only; omega⟩, .inr (.inr (.inl ⟨rfl, plainW_of (fun q => ?_) (vis_rule h2)⟩))⟩⟩
 ·have hnb : ¬ ((⟨2, 0, pw d.now.p - 1, w⟩ : Dd) = backD ∧ 0 < d.past.length) := fun q => by
   have := congrArg Dd.kind q.1
   dsimp only [backD] at this
   omega
  have hdf : ptext ⟨d.now.p, d.now.bs, d.now.rules.set 0 w⟩ ≠ ptext d.now := fun q => hne (by
   unfold ptext at q
   rw [if_pos hpl, if_pos hx] at q
   have e := congrArg (fun x : Place => x.rules.getD 0 ⟨#[]⟩) (plT_inj hpl hx q)
   dsimp only at e
   rw [← e, List.getD_eq_getElem?_getD, List.getElem?_set_self (by omega)]
   rfl)
  unfold doD
  rw [if_neg hnb, hm, if_pos ⟨hpl, hdf⟩]
  rfl
 ·dsimp only at q
  rw [q, no_empty] at h2
  cases h2
theorem dual_act {s : Store} (hS : isSt s) (hm : jn s.log = s.log.size) {t : List Mark} (ht : rdT 49 (opD s).now.h ((opD s).now.rules.getD 0 ⟨#[]⟩) = some t) (hne : textT (dualT (opD s).now.bs t) ≠ (opD s).now.rules.getD 0 ⟨#[]⟩) (hl : s.log.size ≤ 940) :
  canAct s ⟨2, 0, pw (opD s).now.p - 1, textT (dualT (opD s).now.bs t)⟩ := by
 obtain ⟨h1, h2⟩ := dual_can (opD_ok hS) ht hne
 have h3 := deedT_size ⟨2, 0, pw (opD s).now.p - 1, textT (dualT (opD s).now.bs t)⟩
 have h4 := textT_size (dual_read ht).1
 exact ⟨hm, h1, h2, by dsimp only at h3; omega⟩
/-! ### Logs that break off -/
end Go.Proofs.YtkafoolhbflfkaaGreatDoor.Vc
end
section
/- Part YE: laws on stores: breaking down, being made sure, being stores. -/
namespace Go.Proofs.YtkafoolhbflfkaaGreatDoor.Vc
open Go.Proofs
set_option maxRecDepth 100000
set_option maxHeartbeats 4000000
theorem crashS_yes {s : Store} {n : Int} (h : isSt s) (h1 : s.sure ≤ n) (h2 : n ≤ s.log.size) : crashS s n = some ⟨s.saved, s.log.extract 0 n.toNat, s.sure⟩ := if_pos ⟨h, h1, h2⟩
theorem drawnS.P {s : Store} (h : drawnS s) : storeP s := ⟨⟨by have := h.1; omega, by have := h.2.1; omega, ⟨by have := h.2.2.1; omega, by have := h.2.2.2; omega⟩⟩, by have := h.1; omega⟩
end Go.Proofs.YtkafoolhbflfkaaGreatDoor.Vc
end
section
/- Part YF0: exact laws on stores: saved, acted at. -/
namespace Go.Proofs.YtkafoolhbflfkaaGreatDoor.Vc
open Go.Proofs
set_option maxRecDepth 100000
set_option maxHeartbeats 4000000
theorem isSt_P {s : Store} (h : isSt s) : storeP s := by
 obtain ⟨x, hx⟩ := h.1
 have h1 := plT_size hx.1
 rw [hx.2] at h1
 have h2 := h.2.1
 have h3 := h.2.2
 exact ⟨⟨by omega, by omega, ⟨by omega, by omega⟩⟩, by omega⟩
end Go.Proofs.YtkafoolhbflfkaaGreatDoor.Vc
end
section
/- Part YF: laws on stores: new, saved, opened, acted at. -/
namespace Go.Proofs.YtkafoolhbflfkaaGreatDoor.Vc
open Go.Proofs
set_option maxRecDepth 100000
set_option maxHeartbeats 4000000
theorem deskOk_l {d : Desk} (h : deskOk d) : lenD d := ⟨⟨Nat.le_trans h.1.1.2.1 (by decide), Nat.lt_of_le_of_lt h.1.2.1.2 (by decide)⟩, Nat.lt_of_le_of_lt h.2.1 (by decide), fun x hx => ⟨Nat.le_trans (h.2.2 x hx).1.2.1 (by decide), Nat.lt_of_le_of_lt (h.2.2 x hx).2.1.2 (by decide)⟩⟩
end Go.Proofs.YtkafoolhbflfkaaGreatDoor.Vc
end
section
/- Part YG: the law of stores told to the end. -/
namespace Go.Proofs.YtkafoolhbflfkaaGreatDoor.Vc
open Go.Proofs
set_option maxRecDepth 100000
set_option maxHeartbeats 4000000
def C247 := C259
theorem F247 : FF 51 C247 := by
 refine fitX [(76, C259)] (by simp only [List.mem_cons, List.not_mem_nil, or_false]; rintro _ rfl <;> first | exact F259) [] (by simp) Tryz.f51 ⟨rfl, by decide +kernel, by decide +kernel⟩ (by intro x K K2 hk h; (try dsimp only at h ⊢); intros; apply hk; first | exact h | (apply h <;> assumption)) ?_
 rintro s K hs h
 refine ⟨Nat.le_of_ble_eq_true rfl, ?_⟩
 repeat' ((conv=>whnf);first|refine vA ?_|with_reducible first|refine v8 ?_|refine Sp.mk ?_ ?_|refine vS ?_|refine vR ?_|refine vB ?_|refine br_nt ?_|refine br_tt ?_|refine br_ff ?_|refine vP ?_|refine vQ ?_|refine vT ?_|refine vF ?_|refine br_and ?_|refine br_or ?_|refine br_d (fun _=>?_) fun _=>?_|refine vM (fun _=>?_) fun _=>?_)
 refine ⟨s, ?_, ⟨hs⟩, ?_⟩
 ·repeat' ((conv=>whnf);first|with_reducible exact True.intro|exact vW|with_reducible refine And.intro ?_ ?_)
 repeat' ((conv=>whnf);first|refine vA ?_|with_reducible first|refine v8 ?_|refine Sp.mk ?_ ?_|refine vS ?_|refine vR ?_|refine vB ?_|refine br_nt ?_|refine br_tt ?_|refine br_ff ?_|refine vP ?_|refine vQ ?_|refine vT ?_|refine vF ?_|refine br_and ?_|refine br_or ?_|refine br_d (fun _=>?_) fun _=>?_|refine vM (fun _=>?_) fun _=>?_)
 exact h
end Go.Proofs.YtkafoolhbflfkaaGreatDoor.Vc
end
section
/- Part ZS0: the dual of a term (as in ZS, for seats without swings). -/
namespace Go.Proofs.YtkafoolhbflfkaaGreatDoor.Vc
open Go.Proofs
set_option maxRecDepth 10000
set_option maxHeartbeats 4000000
theorem dual_ext {bs : List Int} {t : List Mark} {i : Nat} (hi : i < t.length) {g : Nat → List AV} (hg : g 0 = encM (dualM bs (t.getD i default))) : i + 1 = i + 1 ∧ ∀ j, j < i + 1 → encM ((dualT bs (t.take (i + 1))).getD j default) = appF i (fun j => encM ((dualT bs (t.take i)).getD j default)) g j := by
 have e : dualT bs (t.take (i + 1)) = dualT bs (t.take i) ++ [dualM bs (t.getD i default)] := by
  unfold dualT
  rw [take_succ' default hi, List.map_append]
  rfl
 have l : (dualT bs (t.take i)).length = i := by rw [dualT, List.length_map, List.length_take]; omega
 have := app_extG encM default (l := dualT bs (t.take i)) hg
 rw [l] at this
 rw [e]
 refine ⟨rfl, fun j hj => this.2 j (by rw [List.length_append, l]; simpa using hj)⟩
structure Dx where
 p : Int
 bs : List Int
 t : List Mark
def C46 : List AV → (AV → Prop) → Prop := con (X := Dx) (fun x => [house x.p x.bs, slM x.t]) (fun x => termOk ⟨x.p, x.bs⟩ x.t) fun x K => K (slM (dualT x.bs x.t))
theorem F46 : FF 86 C46 := by
 refine fitE [(120, C50)] (by simp only [List.mem_cons, List.not_mem_nil, or_false]; rintro _ rfl <;> first | exact F50) Tryz.f86 ⟨rfl, by decide +kernel, by decide +kernel⟩ (fun _ _ _ hk h => hk _ h) ?_
 rintro ⟨p, bs, t⟩ K hO h
 refine ⟨Nat.le_of_ble_eq_true rfl, ?_⟩
 dsimp only at h hO ⊢
 have hg : ∀ m ∈ t, goodM bs m := walk_good t 0 1 hO.2.2
 have ht9 : t.length ≤ 9 := hO.2.1
 have pp : people p := hO.1.1
 have pl := pw_le pp
 repeat' ((conv=>whnf);first|refine vA ?_|with_reducible first|refine v8 ?_|refine Sp.mk ?_ ?_|refine vS ?_|refine vR ?_|refine vB ?_|refine br_nt ?_|refine br_tt ?_|refine br_ff ?_|refine vP ?_|refine vQ ?_|refine vT ?_|refine vF ?_|refine br_and ?_|refine br_or ?_|refine br_d (fun _=>?_) fun _=>?_|refine vM (fun _=>?_) fun _=>?_)
 refine Lp.mk ⟨Nat, fun i => [(2, .ptr 0 0), (5, .row 1 3 0 i), (9, slM t), (10, .int .i64 t.length), (11, .int .i64 i)],
  fun i => [.box [.int .i64 p, slI bs], .row 3 i fun j => encM ((dualT bs (t.take i)).getD j default)], fun i => i ≤ t.length, fun i => t.length - i, ⟨0, Nat.zero_le _, ⟨⟨[some 0, none], [], rfl, rfl, ?_, ?_⟩⟩⟩, ?_⟩
 ·repeat' ((conv=>whnf);first|with_reducible exact True.intro|exact vW|with_reducible refine And.intro ?_ ?_)
 ·repeat' ((conv=>whnf);first|with_reducible exact True.intro|exact vW|with_reducible refine And.intro ?_ ?_)
 intro i i1
 dsimp only
 repeat' ((conv=>whnf);first|refine vA ?_|with_reducible first|refine v8 ?_|refine Sp.mk ?_ ?_|refine vS ?_|refine vR ?_|refine vB ?_|refine br_nt ?_|refine br_tt ?_|refine br_ff ?_|refine vP ?_|refine vQ ?_|refine vT ?_|refine vF ?_|refine br_and ?_|refine br_or ?_|refine br_d (fun _=>?_) fun _=>?_|refine vM (fun _=>?_) fun _=>?_)
 ·rename_i hk
  have hi : i < t.length := by omega
  have hm := hg _ (getD_mem' (l := t) (i := i) (d := default) hi)
  have hk' : (t.getD i default).kind = 0 := hk
  rcases hm with ⟨_, g1, g2, g3, g4⟩ | g | g <;> try omega
  have hb := body_ok (p := p) (bs := bs) hO.1.2.2 g1 g2
  have hh := heads_le (bs.getD (t.getD i default).at_.toNat 0).toNat
  have e0 : ((i : Nat) : Int).toNat = i := rfl
  refine Dr.mk ⟨(.rd 0 (.rd 1 (.rd 2 (.rd 3 (.rd 4 (.rd 5 (.rd 8 (.rd 9 (.ef 6 (.rd 7 (.rd 10 (.rd 11 (.ef 12 .dn .no)))) .no))))))))), by decide +kernel, ?_⟩
  rw [e0]
  repeat' ((conv=>whnf);first|refine vA ?_|with_reducible first|refine v8 ?_|refine Sp.mk ?_ ?_|refine vS ?_|refine vR ?_|refine vB ?_|refine br_nt ?_|refine br_tt ?_|refine br_ff ?_|refine vP ?_|refine vQ ?_|refine vT ?_|refine vF ?_|refine br_and ?_|refine br_or ?_|refine br_d (fun _=>?_) fun _=>?_|refine vM (fun _=>?_) fun _=>?_)
  refine ⟨bs.getD (t.getD i default).at_.toNat 0, ?_, ⟨hb.2.1, by have := hb.2.2; omega⟩, ?_⟩
  ·repeat' ((conv=>whnf);first|with_reducible exact True.intro|exact vW|with_reducible refine And.intro ?_ ?_)
  repeat' ((conv=>whnf);first|refine vA ?_|with_reducible first|refine v8 ?_|refine Sp.mk ?_ ?_|refine vS ?_|refine vR ?_|refine vB ?_|refine br_nt ?_|refine br_tt ?_|refine br_ff ?_|refine vP ?_|refine vQ ?_|refine vT ?_|refine vF ?_|refine br_and ?_|refine br_or ?_|refine br_d (fun _=>?_) fun _=>?_|refine vM (fun _=>?_) fun _=>?_)
  refine ⟨i + 1, by omega, by omega, ⟨⟨[some 0, some 4], [], rfl, rfl, ?_, ?_⟩⟩⟩
  ·repeat' ((conv=>whnf);first|with_reducible exact True.intro|exact vW|with_reducible refine And.intro ?_ ?_)
  ·repeat' ((conv=>whnf);first|with_reducible exact True.intro|exact vW|with_reducible refine And.intro ?_ ?_)
   all_goals exact Chk.mk (dual_ext hi (by unfold dualM; rw [if_pos hk']; show [AV.int .i64 (t.getD i default).kind, _, _] = [AV.int .i64 0, _, _]; rw [hk']))
 ·rename_i hk hk1
  have hi : i < t.length := by omega
  have hk' : ¬ (t.getD i default).kind = 0 := hk
  have hk1' : (t.getD i default).kind = 1 := hk1
  refine ⟨i + 1, by omega, by omega, ⟨⟨[some 0, some 4], [], rfl, rfl, ?_, ?_⟩⟩⟩
  ·repeat' ((conv=>whnf);first|with_reducible exact True.intro|exact vW|with_reducible refine And.intro ?_ ?_)
  ·repeat' ((conv=>whnf);first|with_reducible exact True.intro|exact vW|with_reducible refine And.intro ?_ ?_)
   all_goals exact Chk.mk (dual_ext hi (by unfold dualM; rw [if_neg hk', if_pos hk1']; rfl))
 ·rename_i hk hk1
  have hi : i < t.length := by omega
  have hk' : ¬ (t.getD i default).kind = 0 := hk
  have hk1' : ¬ (t.getD i default).kind = 1 := hk1
  refine ⟨i + 1, by omega, by omega, ⟨⟨[some 0, some 4], [], rfl, rfl, ?_, ?_⟩⟩⟩
  ·repeat' ((conv=>whnf);first|with_reducible exact True.intro|exact vW|with_reducible refine And.intro ?_ ?_)
  ·repeat' ((conv=>whnf);first|with_reducible exact True.intro|exact vW|with_reducible refine And.intro ?_ ?_)
   all_goals exact Chk.mk (dual_ext hi (by unfold dualM; rw [if_neg hk', if_neg hk1']; rfl))
 ·have e : t.take i = t := List.take_of_length_le (by omega)
  rw [e]
  have e2 : (fun k => (fun j => encM ((dualT bs t).getD j default)) (0 + k)) = fun j => encM ((dualT bs t).getD j default) := by funext k; rw [Nat.zero_add]
  have e3 : i = (dualT bs t).length := by rw [dualT, List.length_map]; omega
  show K (AV.sl 3 i fun k => (fun j => encM ((dualT bs t).getD j default)) (0 + k))
  rw [e2, e3]
  exact h
def C23 : List AV → (AV → Prop) → Prop := con (X := House × List Mark) (fun x => [enH x.1, slM x.2]) (fun x => termI x.1 x.2 ∧ termOk x.1 x.2) fun x K => K (slM (dualT x.1.bs x.2))
theorem F23 : FF 54 C23 := by
 refine fitE [(84, C38), (86, C46)] (by simp only [List.mem_cons, List.not_mem_nil, or_false]; rintro _ (rfl | rfl) <;> first | exact F38 | exact F46) Tryz.f54 ⟨rfl, by decide +kernel, by decide +kernel⟩ (fun _ _ _ hk h => hk _ h) ?_
 rintro ⟨⟨p, bs⟩, t⟩ K ⟨hI, hO⟩ h
 refine ⟨Nat.le_of_ble_eq_true rfl, ?_⟩
 dsimp only [enH] at h hI hO ⊢
 repeat' ((conv=>whnf);first|refine vA ?_|with_reducible first|refine v8 ?_|refine Sp.mk ?_ ?_|refine vS ?_|refine vR ?_|refine vB ?_|refine br_nt ?_|refine br_tt ?_|refine br_ff ?_|refine vP ?_|refine vQ ?_|refine vT ?_|refine vF ?_|refine br_and ?_|refine br_or ?_|refine br_d (fun _=>?_) fun _=>?_|refine vM (fun _=>?_) fun _=>?_)
 refine ⟨(⟨p, bs⟩, t), ?_, ⟨hI⟩, ?_⟩
 ·repeat' ((conv=>whnf);first|with_reducible exact True.intro|exact vW|with_reducible refine And.intro ?_ ?_)
 repeat' ((conv=>whnf);first|refine vA ?_|with_reducible first|refine v8 ?_|refine Sp.mk ?_ ?_|refine vS ?_|refine vR ?_|refine vB ?_|refine br_nt ?_|refine br_tt ?_|refine br_ff ?_|refine vP ?_|refine vQ ?_|refine vT ?_|refine vF ?_|refine br_and ?_|refine br_or ?_|refine br_d (fun _=>?_) fun _=>?_|refine vM (fun _=>?_) fun _=>?_)
 refine ⟨⟨p, bs, t⟩, ?_, ⟨hO⟩, ?_⟩
 ·repeat' ((conv=>whnf);first|with_reducible exact True.intro|exact vW|with_reducible refine And.intro ?_ ?_)
 repeat' ((conv=>whnf);first|refine vA ?_|with_reducible first|refine v8 ?_|refine Sp.mk ?_ ?_|refine vS ?_|refine vR ?_|refine vB ?_|refine br_nt ?_|refine br_tt ?_|refine br_ff ?_|refine vP ?_|refine vQ ?_|refine vT ?_|refine vF ?_|refine br_and ?_|refine br_or ?_|refine br_d (fun _=>?_) fun _=>?_|refine vM (fun _=>?_) fun _=>?_)
 exact h
end Go.Proofs.YtkafoolhbflfkaaGreatDoor.Vc
end
