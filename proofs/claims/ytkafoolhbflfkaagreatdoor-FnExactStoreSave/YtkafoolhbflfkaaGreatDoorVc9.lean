/- Part YI: the law of mended stores. -/
import Derived.Test.YtkafoolhbflfkaaGreatDoorVc8
section
namespace Go.Proofs.YtkafoolhbflfkaaGreatDoor.Vc
open Go.Proofs
set_option maxRecDepth 100000
set_option maxHeartbeats 4000000
def C240 := C176
theorem F240 : FF 52 C240 := by
 refine fitX [(83, C176)] (by simp only [List.mem_cons, List.not_mem_nil, or_false]; rintro _ rfl <;> first | exact F176) [] (by simp) Tryz.f52 ⟨rfl, by decide +kernel, by decide +kernel⟩ (fun _ _ _ hk h => ⟨fun e => hk _ (h.1 e), fun t e => hk _ (h.2 t e)⟩) ?_
 rintro ⟨⟨p, bs⟩, s⟩ K hI ⟨h1, h2⟩
 refine ⟨Nat.le_of_ble_eq_true rfl, ?_⟩
 dsimp only [enH] at hI ⊢
 repeat' ((conv=>whnf);first|refine vA ?_|with_reducible first|refine v8 ?_|refine Sp.mk ?_ ?_|refine vS ?_|refine vR ?_|refine vB ?_|refine br_nt ?_|refine br_tt ?_|refine br_ff ?_|refine vP ?_|refine vQ ?_|refine vT ?_|refine vF ?_|refine br_and ?_|refine br_or ?_|refine br_d (fun _=>?_) fun _=>?_|refine vM (fun _=>?_) fun _=>?_)
 refine ⟨⟨⟨p, bs⟩, s⟩, ?_, ⟨hI⟩, ?_⟩
 ·repeat' ((conv=>whnf);first|with_reducible exact True.intro|exact vW|with_reducible refine And.intro ?_ ?_)
 refine ⟨fun e => ?_, fun t e => ?_⟩
 ·have h1 := h1 e
  repeat' ((conv=>whnf);first|refine vA ?_|with_reducible first|refine v8 ?_|refine Sp.mk ?_ ?_|refine vS ?_|refine vR ?_|refine vB ?_|refine br_nt ?_|refine br_tt ?_|refine br_ff ?_|refine vP ?_|refine vQ ?_|refine vT ?_|refine vF ?_|refine br_and ?_|refine br_or ?_|refine br_d (fun _=>?_) fun _=>?_|refine vM (fun _=>?_) fun _=>?_)
  exact h1
 ·have h2 := h2 t e
  repeat' ((conv=>whnf);first|refine vA ?_|with_reducible first|refine v8 ?_|refine Sp.mk ?_ ?_|refine vS ?_|refine vR ?_|refine vB ?_|refine br_nt ?_|refine br_tt ?_|refine br_ff ?_|refine vP ?_|refine vQ ?_|refine vT ?_|refine vF ?_|refine br_and ?_|refine br_or ?_|refine br_d (fun _=>?_) fun _=>?_|refine vM (fun _=>?_) fun _=>?_)
  exact h2
def C310 := C173
theorem F310 : FF 53 C310 := by
 refine fitX [(84, C38), (85, C192)] (by simp only [List.mem_cons, List.not_mem_nil, or_false]; rintro _ (rfl | rfl) <;> first | exact F38 | exact F192) [] (by simp) Tryz.f53 ⟨rfl, by decide +kernel, by decide +kernel⟩ (by intro x K K2 hk h; (try dsimp only at h ⊢); intros; apply hk; first | exact h | (apply h <;> assumption)) ?_
 rintro ⟨⟨p, bs⟩, t⟩ K hI h
 refine ⟨Nat.le_of_ble_eq_true rfl, ?_⟩
 unfold ttext at h
 dsimp only [enH] at h ⊢
 repeat' ((conv=>whnf);first|refine vA ?_|with_reducible first|refine v8 ?_|refine Sp.mk ?_ ?_|refine vS ?_|refine vR ?_|refine vB ?_|refine br_nt ?_|refine br_tt ?_|refine br_ff ?_|refine vP ?_|refine vQ ?_|refine vT ?_|refine vF ?_|refine br_and ?_|refine br_or ?_|refine br_d (fun _=>?_) fun _=>?_|refine vM (fun _=>?_) fun _=>?_)
 refine ⟨(⟨p, bs⟩, t), ?_, ⟨hI⟩, ?_⟩
 ·repeat' ((conv=>whnf);first|with_reducible exact True.intro|exact vW|with_reducible refine And.intro ?_ ?_)
 repeat' ((conv=>whnf);first|refine vA ?_|with_reducible first|refine v8 ?_|refine Sp.mk ?_ ?_|refine vS ?_|refine vR ?_|refine vB ?_|refine br_nt ?_|refine br_tt ?_|refine br_ff ?_|refine vP ?_|refine vQ ?_|refine vT ?_|refine vF ?_|refine br_and ?_|refine br_or ?_|refine br_d (fun _=>?_) fun _=>?_|refine vM (fun _=>?_) fun _=>?_)
 ·rename_i hO
  have hO' : termOk ⟨p, bs⟩ t := hO
  refine ⟨⟨bs, t⟩, ?_, ⟨bodies_of hO'.1, hO'.2.2, hO'.2.1⟩, ?_⟩
  ·repeat' ((conv=>whnf);first|with_reducible exact True.intro|exact vW|with_reducible refine And.intro ?_ ?_)
  repeat' ((conv=>whnf);first|refine vA ?_|with_reducible first|refine v8 ?_|refine Sp.mk ?_ ?_|refine vS ?_|refine vR ?_|refine vB ?_|refine br_nt ?_|refine br_tt ?_|refine br_ff ?_|refine vP ?_|refine vQ ?_|refine vT ?_|refine vF ?_|refine br_and ?_|refine br_or ?_|refine br_d (fun _=>?_) fun _=>?_|refine vM (fun _=>?_) fun _=>?_)
  rw [if_pos hO'] at h
  exact h
 ·rename_i hO
  rw [if_neg hO] at h
  exact h
def C305 : List AV → (AV → Prop) → Prop := con (X := List Int) (fun l => [slB l]) bytesI fun _ K => K (.bool true)
theorem F305 : FF 12 C305 := by
 refine fitX [(49, C296), (45, C280), (50, C279), (16, C221), (18, C22), (51, C247), (28, C282), (52, C240), (54, C23), (53, C310), (39, C284)] (by simp only [List.mem_cons, List.not_mem_nil, or_false]; rintro _ (rfl | rfl | rfl | rfl | rfl | rfl | rfl | rfl | rfl | rfl | rfl) <;> first | exact F296 | exact F280 | exact F279 | exact F221 | exact F22 | exact F247 | exact F282 | exact F240 | exact F23 | exact F310 | exact F284) [] (by simp) Tryz.f12 ⟨rfl, by decide +kernel, by decide +kernel⟩ (fun _ _ _ hk h => hk _ h) ?_
 rintro L K hL h
 refine ⟨Nat.le_of_ble_eq_true rfl, ?_⟩
 have hll := hL.2
 have htt : (true == true) = true := rfl
 have hff : (false == false) = true := rfl
 repeat' ((conv=>whnf);first|refine vA ?_|with_reducible first|refine v8 ?_|refine Sp.mk ?_ ?_|refine vS ?_|refine vR ?_|refine vB ?_|refine br_nt ?_|refine br_tt ?_|refine br_ff ?_|refine vP ?_|refine vQ ?_|refine vT ?_|refine vF ?_|refine br_and ?_|refine br_or ?_|refine br_d (fun _=>?_) fun _=>?_|refine vM (fun _=>?_) fun _=>?_)
 ·exact h
 refine ⟨L, ?_, ⟨hL⟩, ?_⟩
 ·repeat' ((conv=>whnf);first|with_reducible exact True.intro|exact vW|with_reducible refine And.intro ?_ ?_)
 rintro ⟨a, b, c⟩ hd
 have hP := hd.P
 dsimp only [enSt, stC]
 repeat' ((conv=>whnf);first|refine vA ?_|with_reducible first|refine v8 ?_|refine Sp.mk ?_ ?_|refine vS ?_|refine vR ?_|refine vB ?_|refine br_nt ?_|refine br_tt ?_|refine br_ff ?_|refine vP ?_|refine vQ ?_|refine vT ?_|refine vF ?_|refine br_and ?_|refine br_or ?_|refine br_d (fun _=>?_) fun _=>?_|refine vM (fun _=>?_) fun _=>?_)
 refine ⟨⟨a, b, c⟩, ?_, ⟨hP⟩, ?_⟩
 ·repeat' ((conv=>whnf);first|with_reducible exact True.intro|exact vW|with_reducible refine And.intro ?_ ?_)
 unfold optS
 dsimp only
 by_cases hS : isSt ⟨a, b, c⟩
 ·have hS2 := isSt_mended hS
  have hall := mended_all ⟨a, b, c⟩
  have hP2 := isSt_P hS2
  have eM := mendS_yes hS
  have eM2 := mendS_yes hS2
  rw [mended_mended hS] at eM2
  have eO := openS_yes hS2
  have hop := opD_ok hS2
  have hdual := fun t => dual_act (t := t) hS2 hall
  have hl := hS2.2.1
  rw [eM]
  generalize mended ⟨a, b, c⟩ = M at *
  obtain ⟨ma, mb, mc⟩ := M
  have hmm : ma = ma := rfl
  have hmb : mb = mb := rfl
  dsimp only at hl hall hdual
  dsimp only [Option.getD_some, Option.isSome_some, enSt, stC]
  repeat' ((conv=>whnf);first|refine vA ?_|with_reducible first|refine v8 ?_|refine Sp.mk ?_ ?_|refine vS ?_|refine vR ?_|refine vB ?_|refine br_nt ?_|refine br_tt ?_|refine br_ff ?_|refine vP ?_|refine vQ ?_|refine vT ?_|refine vF ?_|refine br_and ?_|refine br_or ?_|refine br_d (fun _=>?_) fun _=>?_|refine vM (fun _=>?_) fun _=>?_)
  refine ⟨⟨a, b, c⟩, ?_, ⟨hP⟩, ?_⟩
  ·repeat' ((conv=>whnf);first|with_reducible exact True.intro|exact vW|with_reducible refine And.intro ?_ ?_)
  unfold optS
  dsimp only
  rw [eM]
  dsimp only [Option.getD_some, Option.isSome_some, enSt, stC]
  repeat' ((conv=>whnf);first|refine vA ?_|with_reducible first|refine v8 ?_|refine Sp.mk ?_ ?_|refine vS ?_|refine vR ?_|refine vB ?_|refine br_nt ?_|refine br_tt ?_|refine br_ff ?_|refine vP ?_|refine vQ ?_|refine vT ?_|refine vF ?_|refine br_and ?_|refine br_or ?_|refine br_d (fun _=>?_) fun _=>?_|refine vM (fun _=>?_) fun _=>?_)
  refine ⟨mb, ?_, ⟨by omega⟩, ?_⟩
  ·repeat' ((conv=>whnf);first|with_reducible exact True.intro|exact vW|with_reducible refine And.intro ?_ ?_)
  repeat' ((conv=>whnf);first|refine vA ?_|with_reducible first|refine v8 ?_|refine Sp.mk ?_ ?_|refine vS ?_|refine vR ?_|refine vB ?_|refine br_nt ?_|refine br_tt ?_|refine br_ff ?_|refine vP ?_|refine vQ ?_|refine vT ?_|refine vF ?_|refine br_and ?_|refine br_or ?_|refine br_d (fun _=>?_) fun _=>?_|refine vM (fun _=>?_) fun _=>?_)
  refine ⟨⟨ma, mb, mc⟩, ?_, ⟨hP2⟩, ?_⟩
  ·repeat' ((conv=>whnf);first|with_reducible exact True.intro|exact vW|with_reducible refine And.intro ?_ ?_)
  unfold optS
  dsimp only
  rw [eM2]
  dsimp only [Option.getD_some, Option.isSome_some, enSt, stC]
  repeat' ((conv=>whnf);first|refine vA ?_|with_reducible first|refine v8 ?_|refine Sp.mk ?_ ?_|refine vS ?_|refine vR ?_|refine vB ?_|refine br_nt ?_|refine br_tt ?_|refine br_ff ?_|refine vP ?_|refine vQ ?_|refine vT ?_|refine vF ?_|refine br_and ?_|refine br_or ?_|refine br_d (fun _=>?_) fun _=>?_|refine vM (fun _=>?_) fun _=>?_)
  refine ⟨⟨ma, mb, mc⟩, ?_, ⟨hP2⟩, ?_⟩
  ·repeat' ((conv=>whnf);first|with_reducible exact True.intro|exact vW|with_reducible refine And.intro ?_ ?_)
  dsimp only
  rw [eO]
  generalize opD ⟨ma, mb, mc⟩ = D at *
  obtain ⟨⟨p, bs, rs⟩, l⟩ := D
  dsimp only at hdual
  dsimp only [Option.getD_some, Option.isSome_some, enDe, deC]
  have hO := hop.1
  have hI := I_of hO
  have pp : people p := hO.1.1
  have pl := pw_le pp
  have hr1 := hO.2.1.1
  have hr2 := hO.2.1.2
  have p1 := pp.1
  have p2 := pp.2
  have hm0 : rs.getD 0 ⟨#[]⟩ ∈ rs := getD_mem' (by dsimp only at hr1; omega)
  obtain ⟨t, ht⟩ := bad_term (hO.2.2 _ hm0)
  obtain ⟨htI, htO⟩ := rdT_termI (h := ⟨p, bs⟩) hI.1 ht
  obtain ⟨hdO, hdB⟩ := dual_read (x := ⟨p, bs, rs⟩) ht
  have hdI : termI ⟨p, bs⟩ (dualT bs t) := by
   have h2 := (rdT_iff (lo := 49) (h := ⟨p, bs⟩) (by decide)).2 ⟨Nat.le_trans (textT_size hdO) (by decide), hdO, rfl⟩
   exact (rdT_termI (h := ⟨p, bs⟩) hI.1 h2).1
  have hdz := textT_size hdO
  have hDT := hdual t ht
  have htx : ttext (⟨p, bs⟩, dualT bs t) = textT (dualT bs t) := if_pos hdO
  have hsz0 := hI.2.2 _ hm0
  dsimp only at hr1 hr2 hdO hdz
  repeat' ((conv=>whnf);first|refine vA ?_|with_reducible first|refine v8 ?_|refine Sp.mk ?_ ?_|refine vS ?_|refine vR ?_|refine vB ?_|refine br_nt ?_|refine br_tt ?_|refine br_ff ?_|refine vP ?_|refine vQ ?_|refine vT ?_|refine vF ?_|refine br_and ?_|refine br_or ?_|refine br_d (fun _=>?_) fun _=>?_|refine vM (fun _=>?_) fun _=>?_)
  refine Dr.mk ⟨(.rd 0 (.rd 1 (.rd 2 (.rd 3 (.rd 4 (.rd 5 (.rd 6 (.rd 7 (.ef 8 (.rd 9 (.rd 10 (.rd 11 (.rd 12 (.rd 13 .dn))))) .no))))))))), by decide +kernel, ?_⟩
  repeat' ((conv=>whnf);first|refine vA ?_|with_reducible first|refine v8 ?_|refine Sp.mk ?_ ?_|refine vS ?_|refine vR ?_|refine vB ?_|refine br_nt ?_|refine br_tt ?_|refine br_ff ?_|refine vP ?_|refine vQ ?_|refine vT ?_|refine vF ?_|refine br_and ?_|refine br_or ?_|refine br_d (fun _=>?_) fun _=>?_|refine vM (fun _=>?_) fun _=>?_)
  refine ⟨⟨⟨p, bs⟩, rs.getD 0 ⟨#[]⟩⟩, ?_, ⟨hI.1, hsz0⟩, ?_⟩
  ·repeat' ((conv=>whnf);first|with_reducible exact True.intro|exact vW|with_reducible refine And.intro ?_ ?_)
  refine ⟨fun e => ?_, fun u e => ?_⟩
  ·rw [show rdT 49 (Place.h ⟨p, bs, rs⟩) (rs.getD 0 ⟨#[]⟩) = none from e] at ht
   cases ht
  rw [show rdT 49 (Place.h ⟨p, bs, rs⟩) (rs.getD 0 ⟨#[]⟩) = some u from e] at ht
  cases ht
  repeat' ((conv=>whnf);first|refine vA ?_|with_reducible first|refine v8 ?_|refine Sp.mk ?_ ?_|refine vS ?_|refine vR ?_|refine vB ?_|refine br_nt ?_|refine br_tt ?_|refine br_ff ?_|refine vP ?_|refine vQ ?_|refine vT ?_|refine vF ?_|refine br_and ?_|refine br_or ?_|refine br_d (fun _=>?_) fun _=>?_|refine vM (fun _=>?_) fun _=>?_)
  refine Dr.mk ⟨(.rd 0 (.rd 1 (.rd 2 (.rd 3 (.rd 4 (.rd 5 (.rd 6 (.ef 7 (.ef 8 (.rd 9 .dn) .no) .no)))))))), by decide +kernel, ?_⟩
  repeat' ((conv=>whnf);first|refine vA ?_|with_reducible first|refine v8 ?_|refine Sp.mk ?_ ?_|refine vS ?_|refine vR ?_|refine vB ?_|refine br_nt ?_|refine br_tt ?_|refine br_ff ?_|refine vP ?_|refine vQ ?_|refine vT ?_|refine vF ?_|refine br_and ?_|refine br_or ?_|refine br_d (fun _=>?_) fun _=>?_|refine vM (fun _=>?_) fun _=>?_)
  refine ⟨(⟨p, bs⟩, t), ?_, ⟨htI, htO⟩, ?_⟩
  ·repeat' ((conv=>whnf);first|with_reducible exact True.intro|exact vW|with_reducible refine And.intro ?_ ?_)
  repeat' ((conv=>whnf);first|refine vA ?_|with_reducible first|refine v8 ?_|refine Sp.mk ?_ ?_|refine vS ?_|refine vR ?_|refine vB ?_|refine br_nt ?_|refine br_tt ?_|refine br_ff ?_|refine vP ?_|refine vQ ?_|refine vT ?_|refine vF ?_|refine br_and ?_|refine br_or ?_|refine br_d (fun _=>?_) fun _=>?_|refine vM (fun _=>?_) fun _=>?_)
  refine ⟨(⟨p, bs⟩, dualT bs t), ?_, ⟨hdI⟩, ?_⟩
  ·repeat' ((conv=>whnf);first|with_reducible exact True.intro|exact vW|with_reducible refine And.intro ?_ ?_)
  dsimp only
  rw [htx]
  generalize textT (dualT bs t) = w at *
  repeat' ((conv=>whnf);first|refine vA ?_|with_reducible first|refine v8 ?_|refine Sp.mk ?_ ?_|refine vS ?_|refine vR ?_|refine vB ?_|refine br_nt ?_|refine br_tt ?_|refine br_ff ?_|refine vP ?_|refine vQ ?_|refine vT ?_|refine vF ?_|refine br_and ?_|refine br_or ?_|refine br_d (fun _=>?_) fun _=>?_|refine vM (fun _=>?_) fun _=>?_)
  refine Dr.mk ⟨(.rd 0 (.rd 1 (.rd 2 (.rd 3 (.rd 4 (.rd 5 (.rd 6 (.rd 7 (.rd 8 (.ef 9 (.rd 10 (.rd 11 (.rd 12 (.ef 13 (.ef 14 (.rd 15 .dn) .no) .no)))) (.ef 13 (.ef 9 (.rd 10 (.rd 11 (.rd 12 (.ef 14 (.rd 15 .dn) .no)))) .no) .no))))))))))), by decide +kernel, ?_⟩
  repeat' ((conv=>whnf);first|refine vA ?_|with_reducible first|refine v8 ?_|refine Sp.mk ?_ ?_|refine vS ?_|refine vR ?_|refine vB ?_|refine br_nt ?_|refine br_tt ?_|refine br_ff ?_|refine vP ?_|refine vQ ?_|refine vT ?_|refine vF ?_|refine br_and ?_|refine br_or ?_|refine br_d (fun _=>?_) fun _=>?_|refine vM (fun _=>?_) fun _=>?_)
  rw [pw_sh pp]
  repeat' ((conv=>whnf);first|refine vA ?_|with_reducible first|refine v8 ?_|refine Sp.mk ?_ ?_|refine vS ?_|refine vR ?_|refine vB ?_|refine br_nt ?_|refine br_tt ?_|refine br_ff ?_|refine vP ?_|refine vQ ?_|refine vT ?_|refine vF ?_|refine br_and ?_|refine br_or ?_|refine br_d (fun _=>?_) fun _=>?_|refine vM (fun _=>?_) fun _=>?_)
  all_goals
   refine ⟨⟨⟨ma, mb, mc⟩, ⟨2, 0, pw p - 1, w⟩⟩, ?_, ⟨hP2, (⟨(⟨by decide, by decide⟩ : i64r 2), (⟨by decide, by decide⟩ : i64r 0), ⟨by dsimp only; omega, by dsimp only; omega⟩, by dsimp only; omega⟩ : dedI ⟨2, 0, pw p - 1, w⟩), by dsimp only; omega⟩, ?_⟩
   ·repeat' ((conv=>whnf);first|with_reducible exact True.intro|exact vW|with_reducible refine And.intro ?_ ?_)
   dsimp only
   generalize hr : actR ⟨ma, mb, mc⟩ ⟨2, 0, pw p - 1, w⟩ = r
   obtain ⟨o, hk⟩ : ∃ o, (actS ⟨ma, mb, mc⟩ ⟨2, 0, pw p - 1, w⟩).isSome = o := ⟨_, rfl⟩
   have hcan : w ≠ rs.getD 0 ⟨#[]⟩ → mb.size ≤ 940 → o = true := fun q1 q2 => by
    rw [← hk, actS_yes hS2 (hDT q1 q2)]
    rfl
   rw [hk]
   clear hr hk
   obtain ⟨ra, rb, rc⟩ := r
   dsimp only [enSt, stC]
   cases o
   ·by_cases hw : w = rs.getD (Int.toNat 0) ⟨#[]⟩
    ·repeat' ((conv=>whnf);first|refine vA ?_|with_reducible first|refine v8 ?_|refine Sp.mk ?_ ?_|refine vS ?_|refine vR ?_|refine vB ?_|refine br_nt ?_|refine br_tt ?_|refine br_ff ?_|refine vP ?_|refine vQ ?_|refine vT ?_|refine vF ?_|refine br_and ?_|refine br_or ?_|refine br_d (fun _=>?_) fun _=>?_|refine vM (fun _=>?_) fun _=>?_)
     exact h
    ·have hgt : ¬ mb.size ≤ 940 := fun q => by cases hcan hw q
     repeat' ((conv=>whnf);first|refine vA ?_|with_reducible first|refine v8 ?_|refine Sp.mk ?_ ?_|refine vS ?_|refine vR ?_|refine vB ?_|refine br_nt ?_|refine br_tt ?_|refine br_ff ?_|refine vP ?_|refine vQ ?_|refine vT ?_|refine vF ?_|refine br_and ?_|refine br_or ?_|refine br_d (fun _=>?_) fun _=>?_|refine vM (fun _=>?_) fun _=>?_)
     rw [decide_eq_true (by omega : (mb.size : Int) > 940)]
     exact h
   ·repeat' ((conv=>whnf);first|refine vA ?_|with_reducible first|refine v8 ?_|refine Sp.mk ?_ ?_|refine vS ?_|refine vR ?_|refine vB ?_|refine br_nt ?_|refine br_tt ?_|refine br_ff ?_|refine vP ?_|refine vQ ?_|refine vT ?_|refine vF ?_|refine br_and ?_|refine br_or ?_|refine br_d (fun _=>?_) fun _=>?_|refine vM (fun _=>?_) fun _=>?_)
    exact h
 ·have eM := mendS_no hS
  rw [eM]
  dsimp only [Option.getD_none, Option.isSome_none, enSt, stC]
  have d1 : (default : Store).saved = ⟨#[]⟩ := rfl
  have d2 : (default : Store).log = ⟨#[]⟩ := rfl
  have d3 : (default : Store).sure = 0 := rfl
  have d4 : (default : Store).saved = (default : Store).saved := rfl
  have d5 : (default : Store).log = (default : Store).log := rfl
  repeat' ((conv=>whnf);first|refine vA ?_|with_reducible first|refine v8 ?_|refine Sp.mk ?_ ?_|refine vS ?_|refine vR ?_|refine vB ?_|refine br_nt ?_|refine br_tt ?_|refine br_ff ?_|refine vP ?_|refine vQ ?_|refine vT ?_|refine vF ?_|refine br_and ?_|refine br_or ?_|refine br_d (fun _=>?_) fun _=>?_|refine vM (fun _=>?_) fun _=>?_)
  refine ⟨⟨a, b, c⟩, ?_, ⟨hP⟩, ?_⟩
  ·repeat' ((conv=>whnf);first|with_reducible exact True.intro|exact vW|with_reducible refine And.intro ?_ ?_)
  unfold optS
  dsimp only
  rw [eM]
  dsimp only [Option.getD_none, Option.isSome_none, enSt, stC]
  repeat' ((conv=>whnf);first|refine vA ?_|with_reducible first|refine v8 ?_|refine Sp.mk ?_ ?_|refine vS ?_|refine vR ?_|refine vB ?_|refine br_nt ?_|refine br_tt ?_|refine br_ff ?_|refine vP ?_|refine vQ ?_|refine vT ?_|refine vF ?_|refine br_and ?_|refine br_or ?_|refine br_d (fun _=>?_) fun _=>?_|refine vM (fun _=>?_) fun _=>?_)
  refine ⟨⟨a, b, c⟩, ?_, ⟨hP⟩, ?_⟩
  ·repeat' ((conv=>whnf);first|with_reducible exact True.intro|exact vW|with_reducible refine And.intro ?_ ?_)
  intro o ho
  obtain rfl := isf ho hS
  repeat' ((conv=>whnf);first|refine vA ?_|with_reducible first|refine v8 ?_|refine Sp.mk ?_ ?_|refine vS ?_|refine vR ?_|refine vB ?_|refine br_nt ?_|refine br_tt ?_|refine br_ff ?_|refine vP ?_|refine vQ ?_|refine vT ?_|refine vF ?_|refine br_and ?_|refine br_or ?_|refine br_d (fun _=>?_) fun _=>?_|refine vM (fun _=>?_) fun _=>?_)
  refine ⟨(), ?_, ⟨trivial⟩, ?_⟩
  ·repeat' ((conv=>whnf);first|with_reducible exact True.intro|exact vW|with_reducible refine And.intro ?_ ?_)
  repeat' ((conv=>whnf);first|refine vA ?_|with_reducible first|refine v8 ?_|refine Sp.mk ?_ ?_|refine vS ?_|refine vR ?_|refine vB ?_|refine br_nt ?_|refine br_tt ?_|refine br_ff ?_|refine vP ?_|refine vQ ?_|refine vT ?_|refine vF ?_|refine br_and ?_|refine br_or ?_|refine br_d (fun _=>?_) fun _=>?_|refine vM (fun _=>?_) fun _=>?_)
  exact h
end Go.Proofs.YtkafoolhbflfkaaGreatDoor.Vc
end
section
/- Part YS: stores that are saved, by both sides. -/
namespace Go.Proofs.YtkafoolhbflfkaaGreatDoor.Vc
open Go.Proofs
set_option maxRecDepth 10000
set_option maxHeartbeats 4000000
def C286 : List AV → (AV → Prop) → Prop := con (X := Store) (fun s => [enSt s]) storeP fun s K => optS (saveS s) K
theorem saveS_yes {s : Store} (h : isSt s) : saveS s = some (savedD (opD s)) := if_pos h
theorem saveS_no {s : Store} (h : ¬ isSt s) : saveS s = none := if_neg h
theorem F286 : FF 34 C286 := by
 refine fitX [(60, C220), (70, C281), (67, C166)] (by simp only [List.mem_cons, List.not_mem_nil, or_false]; rintro _ (rfl | rfl | rfl) <;> first | exact F220 | exact F281 | exact F166) [] (by simp) Tryz.f34 ⟨rfl, by decide +kernel, by decide +kernel⟩ (by intro x K K2 hk h; (try dsimp only at h ⊢); intros; apply hk; first | exact h | (apply h <;> assumption)) ?_
 rintro ⟨a, b, c⟩ K hP h
 refine ⟨Nat.le_of_ble_eq_true rfl, ?_⟩
 have hs := hP.2
 unfold optS at h
 dsimp only [enSt, stC] at hs h ⊢
 repeat' ((conv=>whnf);first|refine vA ?_|with_reducible first|refine v8 ?_|refine Sp.mk ?_ ?_|refine vS ?_|refine vR ?_|refine vB ?_|refine br_nt ?_|refine br_tt ?_|refine br_ff ?_|refine vP ?_|refine vQ ?_|refine vT ?_|refine vF ?_|refine br_and ?_|refine br_or ?_|refine br_d (fun _=>?_) fun _=>?_|refine vM (fun _=>?_) fun _=>?_)
 refine ⟨⟨a, b, c⟩, ?_, ⟨hP⟩, ?_⟩
 ·repeat' ((conv=>whnf);first|with_reducible exact True.intro|exact vW|with_reducible refine And.intro ?_ ?_)
 intro o ho
 by_cases hS : isSt ⟨a, b, c⟩
 ·obtain rfl := ho.2 hS
  rw [saveS_yes hS] at h
  unfold savedD at h
  have hop := opD_ok hS
  repeat' ((conv=>whnf);first|refine vA ?_|with_reducible first|refine v8 ?_|refine Sp.mk ?_ ?_|refine vS ?_|refine vR ?_|refine vB ?_|refine br_nt ?_|refine br_tt ?_|refine br_ff ?_|refine vP ?_|refine vQ ?_|refine vT ?_|refine vF ?_|refine br_and ?_|refine br_or ?_|refine br_d (fun _=>?_) fun _=>?_|refine vM (fun _=>?_) fun _=>?_)
  refine ⟨⟨a, b, c⟩, ?_, ⟨hS, hs⟩, ?_⟩
  ·repeat' ((conv=>whnf);first|with_reducible exact True.intro|exact vW|with_reducible refine And.intro ?_ ?_)
  dsimp only [Option.getD_some, Option.isSome_some] at h ⊢
  generalize opD ⟨a, b, c⟩ = e at h hop ⊢
  obtain ⟨⟨ep, eb, er⟩, el⟩ := e
  dsimp only [enDe, deC] at h ⊢
  repeat' ((conv=>whnf);first|refine vA ?_|with_reducible first|refine v8 ?_|refine Sp.mk ?_ ?_|refine vS ?_|refine vR ?_|refine vB ?_|refine br_nt ?_|refine br_tt ?_|refine br_ff ?_|refine vP ?_|refine vQ ?_|refine vT ?_|refine vF ?_|refine br_and ?_|refine br_or ?_|refine br_d (fun _=>?_) fun _=>?_|refine vM (fun _=>?_) fun _=>?_)
  refine ⟨⟨ep, eb, er⟩, ?_, ⟨hop.1⟩, ?_⟩
  ·repeat' ((conv=>whnf);first|with_reducible exact True.intro|exact vW|with_reducible refine And.intro ?_ ?_)
  repeat' ((conv=>whnf);first|refine vA ?_|with_reducible first|refine v8 ?_|refine Sp.mk ?_ ?_|refine vS ?_|refine vR ?_|refine vB ?_|refine br_nt ?_|refine br_tt ?_|refine br_ff ?_|refine vP ?_|refine vQ ?_|refine vT ?_|refine vF ?_|refine br_and ?_|refine br_or ?_|refine br_d (fun _=>?_) fun _=>?_|refine vM (fun _=>?_) fun _=>?_)
  exact h
 ·obtain rfl := isf ho hS
  rw [saveS_no hS] at h
  repeat' ((conv=>whnf);first|refine vA ?_|with_reducible first|refine v8 ?_|refine Sp.mk ?_ ?_|refine vS ?_|refine vR ?_|refine vB ?_|refine br_nt ?_|refine br_tt ?_|refine br_ff ?_|refine vP ?_|refine vQ ?_|refine vT ?_|refine vF ?_|refine br_and ?_|refine br_or ?_|refine br_d (fun _=>?_) fun _=>?_|refine vM (fun _=>?_) fun _=>?_)
  exact h
def C287 := C286
theorem F287 : FF 32 C287 := by
 refine fitX [(43, C283), (69, C142)] (by simp only [List.mem_cons, List.not_mem_nil, or_false]; rintro _ (rfl | rfl) <;> first | exact F283 | exact F142) [] (by simp) Tryz.f32 ⟨rfl, by decide +kernel, by decide +kernel⟩ (by intro x K K2 hk h; (try dsimp only at h ⊢); intros; apply hk; first | exact h | (apply h <;> assumption)) ?_
 rintro ⟨a, b, c⟩ K hP h
 refine ⟨Nat.le_of_ble_eq_true rfl, ?_⟩
 have hs := hP.2
 unfold optS at h
 dsimp only [enSt, stC] at hs h ⊢
 repeat' ((conv=>whnf);first|refine vA ?_|with_reducible first|refine v8 ?_|refine Sp.mk ?_ ?_|refine vS ?_|refine vR ?_|refine vB ?_|refine br_nt ?_|refine br_tt ?_|refine br_ff ?_|refine vP ?_|refine vQ ?_|refine vT ?_|refine vF ?_|refine br_and ?_|refine br_or ?_|refine br_d (fun _=>?_) fun _=>?_|refine vM (fun _=>?_) fun _=>?_)
 refine ⟨⟨a, b, c⟩, ?_, ⟨hP⟩, ?_⟩
 ·repeat' ((conv=>whnf);first|with_reducible exact True.intro|exact vW|with_reducible refine And.intro ?_ ?_)
 by_cases hS : isSt ⟨a, b, c⟩
 ·rw [saveS_yes hS] at h
  unfold savedD at h
  have hop := opD_ok hS
  dsimp only
  rw [openS_yes hS]
  dsimp only [Option.getD_some, Option.isSome_some] at h ⊢
  generalize opD ⟨a, b, c⟩ = e at h hop ⊢
  obtain ⟨⟨ep, eb, er⟩, el⟩ := e
  have hpt : ptext ⟨ep, eb, er⟩ = plT ⟨ep, eb, er⟩ := if_pos hop.1
  dsimp only [enDe, deC] at h ⊢
  repeat' ((conv=>whnf);first|refine vA ?_|with_reducible first|refine v8 ?_|refine Sp.mk ?_ ?_|refine vS ?_|refine vR ?_|refine vB ?_|refine br_nt ?_|refine br_tt ?_|refine br_ff ?_|refine vP ?_|refine vQ ?_|refine vT ?_|refine vF ?_|refine br_and ?_|refine br_or ?_|refine br_d (fun _=>?_) fun _=>?_|refine vM (fun _=>?_) fun _=>?_)
  refine ⟨⟨ep, eb, er⟩, ?_, ⟨I_of hop.1⟩, ?_⟩
  ·repeat' ((conv=>whnf);first|with_reducible exact True.intro|exact vW|with_reducible refine And.intro ?_ ?_)
  dsimp only
  rw [hpt]
  repeat' ((conv=>whnf);first|refine vA ?_|with_reducible first|refine v8 ?_|refine Sp.mk ?_ ?_|refine vS ?_|refine vR ?_|refine vB ?_|refine br_nt ?_|refine br_tt ?_|refine br_ff ?_|refine vP ?_|refine vQ ?_|refine vT ?_|refine vF ?_|refine br_and ?_|refine br_or ?_|refine br_d (fun _=>?_) fun _=>?_|refine vM (fun _=>?_) fun _=>?_)
  exact h
 ·rw [saveS_no hS] at h
  dsimp only
  rw [openS_no hS]
  dsimp only [Option.getD_none, Option.isSome_none, enDe, deC] at h ⊢
  repeat' ((conv=>whnf);first|refine vA ?_|with_reducible first|refine v8 ?_|refine Sp.mk ?_ ?_|refine vS ?_|refine vR ?_|refine vB ?_|refine br_nt ?_|refine br_tt ?_|refine br_ff ?_|refine vP ?_|refine vQ ?_|refine vT ?_|refine vF ?_|refine br_and ?_|refine br_or ?_|refine br_d (fun _=>?_) fun _=>?_|refine vM (fun _=>?_) fun _=>?_)
  exact h
end Go.Proofs.YtkafoolhbflfkaaGreatDoor.Vc
end
section
/- Part YSL: the laws of saved stores. -/
namespace Go.Proofs.YtkafoolhbflfkaaGreatDoor.Vc
open Go.Proofs
set_option maxRecDepth 100000
set_option maxHeartbeats 4000000
theorem isSt_saved {s : Store} (h : isSt s) : isSt (savedD (opD s)) := isSt_new (opD_ok h).1
theorem opD_saved {s : Store} (h : isSt s) : opD (savedD (opD s)) = ⟨(opD s).now, []⟩ := opD_new (opD_ok h).1
def C303 : List AV → (AV → Prop) → Prop := con (X := List Int) (fun l => [slB l]) bytesI fun _ K => K (.bool true)
theorem F303 : FF 9 C303 := by
 refine fitX [(40, C294), (34, C286), (32, C287), (16, C221), (18, C22), (28, C282), (20, C276), (41, C137)] (by simp only [List.mem_cons, List.not_mem_nil, or_false]; rintro _ (rfl | rfl | rfl | rfl | rfl | rfl | rfl | rfl) <;> first | exact F294 | exact F286 | exact F287 | exact F221 | exact F22 | exact F282 | exact F276 | exact F137) [] (by simp) Tryz.f9 ⟨rfl, by decide +kernel, by decide +kernel⟩ (fun _ _ _ hk h => hk _ h) ?_
 rintro L K hL h
 refine ⟨Nat.le_of_ble_eq_true rfl, ?_⟩
 have hll := hL.2
 have htt : (true == true) = true := rfl
 have hff : (false == false) = true := rfl
 have hee : (⟨#[]⟩ : ByteArray) = ⟨#[]⟩ := rfl
 repeat' ((conv=>whnf);first|refine vA ?_|with_reducible first|refine v8 ?_|refine Sp.mk ?_ ?_|refine vS ?_|refine vR ?_|refine vB ?_|refine br_nt ?_|refine br_tt ?_|refine br_ff ?_|refine vP ?_|refine vQ ?_|refine vT ?_|refine vF ?_|refine br_and ?_|refine br_or ?_|refine br_d (fun _=>?_) fun _=>?_|refine vM (fun _=>?_) fun _=>?_)
 ·exact h
 refine ⟨L, ?_, ⟨hL⟩, ?_⟩
 ·repeat' ((conv=>whnf);first|with_reducible exact True.intro|exact vW|with_reducible refine And.intro ?_ ?_)
 rintro ⟨a, b, c⟩ hd
 have hP := hd.P
 have haa : a = a := rfl
 have hbb : b = b := rfl
 dsimp only [enSt, stC]
 repeat' ((conv=>whnf);first|refine vA ?_|with_reducible first|refine v8 ?_|refine Sp.mk ?_ ?_|refine vS ?_|refine vR ?_|refine vB ?_|refine br_nt ?_|refine br_tt ?_|refine br_ff ?_|refine vP ?_|refine vQ ?_|refine vT ?_|refine vF ?_|refine br_and ?_|refine br_or ?_|refine br_d (fun _=>?_) fun _=>?_|refine vM (fun _=>?_) fun _=>?_)
 refine ⟨⟨a, b, c⟩, ?_, ⟨hP⟩, ?_⟩
 ·repeat' ((conv=>whnf);first|with_reducible exact True.intro|exact vW|with_reducible refine And.intro ?_ ?_)
 unfold optS
 by_cases hS : isSt ⟨a, b, c⟩
 ·have hop := opD_ok hS
  have hS2 := isSt_saved hS
  have ho2 := opD_saved hS
  have hP2 := isSt_P hS2
  have eS := saveS_yes hS
  have eS2 := saveS_yes hS2
  have eC := crashS_yes hS2 (n := 0) (Int.le_refl 0) (Int.le_refl 0)
  have eO := openS_yes hS
  have eO2 := openS_yes hS2
  rw [ho2] at eS2 eO2
  rw [show (⟨(savedD (opD ⟨a, b, c⟩)).saved, (savedD (opD ⟨a, b, c⟩)).log.extract 0 (Int.toNat 0), (savedD (opD ⟨a, b, c⟩)).sure⟩ : Store) = savedD (opD ⟨a, b, c⟩) from rfl] at eC
  unfold savedD at eS eS2 eC eO2 hP2 hS2
  dsimp only at eS eS2 eC eO2 hP2 hS2
  generalize opD ⟨a, b, c⟩ = D at *
  obtain ⟨⟨ep, eb, er⟩, el⟩ := D
  dsimp only at eS eS2 eC eO2 hP2 hS2
  generalize plT ⟨ep, eb, er⟩ = t at *
  have htx : t = t := rfl
  have hl0 : (([] : List Place).length : Int) = 0 := rfl
  dsimp only
  rw [eS]
  dsimp only [Option.getD_some, Option.isSome_some, enSt, stC]
  repeat' ((conv=>whnf);first|refine vA ?_|with_reducible first|refine v8 ?_|refine Sp.mk ?_ ?_|refine vS ?_|refine vR ?_|refine vB ?_|refine br_nt ?_|refine br_tt ?_|refine br_ff ?_|refine vP ?_|refine vQ ?_|refine vT ?_|refine vF ?_|refine br_and ?_|refine br_or ?_|refine br_d (fun _=>?_) fun _=>?_|refine vM (fun _=>?_) fun _=>?_)
  refine ⟨⟨a, b, c⟩, ?_, ⟨hP⟩, ?_⟩
  ·repeat' ((conv=>whnf);first|with_reducible exact True.intro|exact vW|with_reducible refine And.intro ?_ ?_)
  unfold optS
  dsimp only
  rw [eS]
  dsimp only [Option.getD_some, Option.isSome_some, enSt, stC]
  repeat' ((conv=>whnf);first|refine vA ?_|with_reducible first|refine v8 ?_|refine Sp.mk ?_ ?_|refine vS ?_|refine vR ?_|refine vB ?_|refine br_nt ?_|refine br_tt ?_|refine br_ff ?_|refine vP ?_|refine vQ ?_|refine vT ?_|refine vF ?_|refine br_and ?_|refine br_or ?_|refine br_d (fun _=>?_) fun _=>?_|refine vM (fun _=>?_) fun _=>?_)
  refine ⟨⟨a, b, c⟩, ?_, ⟨hP⟩, ?_⟩
  ·repeat' ((conv=>whnf);first|with_reducible exact True.intro|exact vW|with_reducible refine And.intro ?_ ?_)
  dsimp only
  rw [eO]
  dsimp only [Option.getD_some, Option.isSome_some, enDe, deC]
  repeat' ((conv=>whnf);first|refine vA ?_|with_reducible first|refine v8 ?_|refine Sp.mk ?_ ?_|refine vS ?_|refine vR ?_|refine vB ?_|refine br_nt ?_|refine br_tt ?_|refine br_ff ?_|refine vP ?_|refine vQ ?_|refine vT ?_|refine vF ?_|refine br_and ?_|refine br_or ?_|refine br_d (fun _=>?_) fun _=>?_|refine vM (fun _=>?_) fun _=>?_)
  refine ⟨⟨t, ⟨#[]⟩, 0⟩, ?_, ⟨hP2⟩, ?_⟩
  ·repeat' ((conv=>whnf);first|with_reducible exact True.intro|exact vW|with_reducible refine And.intro ?_ ?_)
  dsimp only
  rw [eO2]
  dsimp only [Option.getD_some, Option.isSome_some, enDe, deC]
  repeat' ((conv=>whnf);first|refine vA ?_|with_reducible first|refine v8 ?_|refine Sp.mk ?_ ?_|refine vS ?_|refine vR ?_|refine vB ?_|refine br_nt ?_|refine br_tt ?_|refine br_ff ?_|refine vP ?_|refine vQ ?_|refine vT ?_|refine vF ?_|refine br_and ?_|refine br_or ?_|refine br_d (fun _=>?_) fun _=>?_|refine vM (fun _=>?_) fun _=>?_)
  refine ⟨(⟨t, ⟨#[]⟩, 0⟩, 0), ?_, ⟨hP2, (⟨by decide, by decide⟩ : i64r 0)⟩, ?_⟩
  ·repeat' ((conv=>whnf);first|with_reducible exact True.intro|exact vW|with_reducible refine And.intro ?_ ?_)
  unfold optS
  dsimp only
  rw [eC]
  dsimp only [Option.getD_some, Option.isSome_some, enSt, stC]
  repeat' ((conv=>whnf);first|refine vA ?_|with_reducible first|refine v8 ?_|refine Sp.mk ?_ ?_|refine vS ?_|refine vR ?_|refine vB ?_|refine br_nt ?_|refine br_tt ?_|refine br_ff ?_|refine vP ?_|refine vQ ?_|refine vT ?_|refine vF ?_|refine br_and ?_|refine br_or ?_|refine br_d (fun _=>?_) fun _=>?_|refine vM (fun _=>?_) fun _=>?_)
  refine ⟨⟨t, ⟨#[]⟩, 0⟩, ?_, ⟨hP2⟩, ?_⟩
  ·repeat' ((conv=>whnf);first|with_reducible exact True.intro|exact vW|with_reducible refine And.intro ?_ ?_)
  unfold optS
  dsimp only
  rw [eS2]
  dsimp only [Option.getD_some, Option.isSome_some, enSt, stC]
  repeat' ((conv=>whnf);first|refine vA ?_|with_reducible first|refine v8 ?_|refine Sp.mk ?_ ?_|refine vS ?_|refine vR ?_|refine vB ?_|refine br_nt ?_|refine br_tt ?_|refine br_ff ?_|refine vP ?_|refine vQ ?_|refine vT ?_|refine vF ?_|refine br_and ?_|refine br_or ?_|refine br_d (fun _=>?_) fun _=>?_|refine vM (fun _=>?_) fun _=>?_)
  refine ⟨⟨t, ⟨#[]⟩, 0⟩, ?_, ⟨hP2⟩, ?_⟩
  ·repeat' ((conv=>whnf);first|with_reducible exact True.intro|exact vW|with_reducible refine And.intro ?_ ?_)
  intro o ho
  obtain rfl := ho.2 hS2
  repeat' ((conv=>whnf);first|refine vA ?_|with_reducible first|refine v8 ?_|refine Sp.mk ?_ ?_|refine vS ?_|refine vR ?_|refine vB ?_|refine br_nt ?_|refine br_tt ?_|refine br_ff ?_|refine vP ?_|refine vQ ?_|refine vT ?_|refine vF ?_|refine br_and ?_|refine br_or ?_|refine br_d (fun _=>?_) fun _=>?_|refine vM (fun _=>?_) fun _=>?_)
  refine ⟨⟨ep, eb, er⟩, ?_, ⟨(deskOk_l hop).1⟩, ?_⟩
  ·repeat' ((conv=>whnf);first|with_reducible exact True.intro|exact vW|with_reducible refine And.intro ?_ ?_)
  repeat' ((conv=>whnf);first|refine vA ?_|with_reducible first|refine v8 ?_|refine Sp.mk ?_ ?_|refine vS ?_|refine vR ?_|refine vB ?_|refine br_nt ?_|refine br_tt ?_|refine br_ff ?_|refine vP ?_|refine vQ ?_|refine vT ?_|refine vF ?_|refine br_and ?_|refine br_or ?_|refine br_d (fun _=>?_) fun _=>?_|refine vM (fun _=>?_) fun _=>?_)
  all_goals first | exact h | simpa using h
 ·have eS := saveS_no hS
  dsimp only
  rw [eS]
  dsimp only [Option.getD_none, Option.isSome_none, enSt, stC]
  have d1 : (default : Store).saved = ⟨#[]⟩ := rfl
  have d2 : (default : Store).log = ⟨#[]⟩ := rfl
  have d3 : (default : Store).sure = 0 := rfl
  have d4 : (default : Store).saved = (default : Store).saved := rfl
  have d5 : (default : Store).log = (default : Store).log := rfl
  repeat' ((conv=>whnf);first|refine vA ?_|with_reducible first|refine v8 ?_|refine Sp.mk ?_ ?_|refine vS ?_|refine vR ?_|refine vB ?_|refine br_nt ?_|refine br_tt ?_|refine br_ff ?_|refine vP ?_|refine vQ ?_|refine vT ?_|refine vF ?_|refine br_and ?_|refine br_or ?_|refine br_d (fun _=>?_) fun _=>?_|refine vM (fun _=>?_) fun _=>?_)
  refine ⟨⟨a, b, c⟩, ?_, ⟨hP⟩, ?_⟩
  ·repeat' ((conv=>whnf);first|with_reducible exact True.intro|exact vW|with_reducible refine And.intro ?_ ?_)
  unfold optS
  dsimp only
  rw [eS]
  dsimp only [Option.getD_none, Option.isSome_none, enSt, stC]
  repeat' ((conv=>whnf);first|refine vA ?_|with_reducible first|refine v8 ?_|refine Sp.mk ?_ ?_|refine vS ?_|refine vR ?_|refine vB ?_|refine br_nt ?_|refine br_tt ?_|refine br_ff ?_|refine vP ?_|refine vQ ?_|refine vT ?_|refine vF ?_|refine br_and ?_|refine br_or ?_|refine br_d (fun _=>?_) fun _=>?_|refine vM (fun _=>?_) fun _=>?_)
  refine ⟨⟨a, b, c⟩, ?_, ⟨hP⟩, ?_⟩
  ·repeat' ((conv=>whnf);first|with_reducible exact True.intro|exact vW|with_reducible refine And.intro ?_ ?_)
  intro o ho
  obtain rfl := isf ho hS
  repeat' ((conv=>whnf);first|refine vA ?_|with_reducible first|refine v8 ?_|refine Sp.mk ?_ ?_|refine vS ?_|refine vR ?_|refine vB ?_|refine br_nt ?_|refine br_tt ?_|refine br_ff ?_|refine vP ?_|refine vQ ?_|refine vT ?_|refine vF ?_|refine br_and ?_|refine br_or ?_|refine br_d (fun _=>?_) fun _=>?_|refine vM (fun _=>?_) fun _=>?_)
  refine ⟨(), ?_, ⟨trivial⟩, ?_⟩
  ·repeat' ((conv=>whnf);first|with_reducible exact True.intro|exact vW|with_reducible refine And.intro ?_ ?_)
  repeat' ((conv=>whnf);first|refine vA ?_|with_reducible first|refine v8 ?_|refine Sp.mk ?_ ?_|refine vS ?_|refine vR ?_|refine vB ?_|refine br_nt ?_|refine br_tt ?_|refine br_ff ?_|refine vP ?_|refine vQ ?_|refine vT ?_|refine vF ?_|refine br_and ?_|refine br_or ?_|refine br_d (fun _=>?_) fun _=>?_|refine vM (fun _=>?_) fun _=>?_)
  exact h
end Go.Proofs.YtkafoolhbflfkaaGreatDoor.Vc
end
section
/- Part YS1: the exact law of saved stores. -/
namespace Go.Proofs.YtkafoolhbflfkaaGreatDoor.Vc
open Go.Proofs
set_option maxRecDepth 100000
set_option maxHeartbeats 4000000
def C301 : List AV → (AV → Prop) → Prop := con (X := Store) (fun s => [enSt s]) storeI fun _ K => K (.bool true)
theorem F301 : FF 7 C301 := by
 refine fitE [(31, C223), (33, C224), (32, C287), (34, C286), (35, C146)] (by simp only [List.mem_cons, List.not_mem_nil, or_false]; rintro _ (rfl | rfl | rfl | rfl | rfl) <;> first | exact F223 | exact F224 | exact F287 | exact F286 | exact F146) Tryz.f7 ⟨rfl, by decide +kernel, by decide +kernel⟩ (fun _ _ _ hk h => hk _ h) ?_
 rintro ⟨a, b, c⟩ K hI h
 refine ⟨Nat.le_of_ble_eq_true rfl, ?_⟩
 dsimp only [enSt, stC]
 repeat' ((conv=>whnf);first|refine vA ?_|with_reducible first|refine v8 ?_|refine Sp.mk ?_ ?_|refine vS ?_|refine vR ?_|refine vB ?_|refine br_nt ?_|refine br_tt ?_|refine br_ff ?_|refine vP ?_|refine vQ ?_|refine vT ?_|refine vF ?_|refine br_and ?_|refine br_or ?_|refine br_d (fun _=>?_) fun _=>?_|refine vM (fun _=>?_) fun _=>?_)
 refine ⟨(⟨a, b, c⟩, 1048576), ?_, ⟨hI, by dsimp only; omega, by dsimp only; omega⟩, ?_⟩
 ·repeat' ((conv=>whnf);first|with_reducible exact True.intro|exact vW|with_reducible refine And.intro ?_ ?_)
 intro v v1 v2 v3
 dsimp only at v2 v3
 repeat' ((conv=>whnf);first|refine vA ?_|with_reducible first|refine v8 ?_|refine Sp.mk ?_ ?_|refine vS ?_|refine vR ?_|refine vB ?_|refine br_nt ?_|refine br_tt ?_|refine br_ff ?_|refine vP ?_|refine vQ ?_|refine vT ?_|refine vF ?_|refine br_and ?_|refine br_or ?_|refine br_d (fun _=>?_) fun _=>?_|refine vM (fun _=>?_) fun _=>?_)
 ·exact h
 rename_i hv
 have hs := v3 (by omega)
 have hp : storeP ⟨a, b, c⟩ := ⟨hI, by dsimp only; omega⟩
 refine ⟨⟨a, b, c⟩, ?_, ⟨trivial⟩, ?_⟩
 ·repeat' ((conv=>whnf);first|with_reducible exact True.intro|exact vW|with_reducible refine And.intro ?_ ?_)
 dsimp only [enSt, stC]
 repeat' ((conv=>whnf);first|refine vA ?_|with_reducible first|refine v8 ?_|refine Sp.mk ?_ ?_|refine vS ?_|refine vR ?_|refine vB ?_|refine br_nt ?_|refine br_tt ?_|refine br_ff ?_|refine vP ?_|refine vQ ?_|refine vT ?_|refine vF ?_|refine br_and ?_|refine br_or ?_|refine br_d (fun _=>?_) fun _=>?_|refine vM (fun _=>?_) fun _=>?_)
 refine ⟨⟨a, b, c⟩, ?_, ⟨hp⟩, ?_⟩
 ·repeat' ((conv=>whnf);first|with_reducible exact True.intro|exact vW|with_reducible refine And.intro ?_ ?_)
 obtain ⟨o, ho⟩ : ∃ o, saveS ⟨a, b, c⟩ = o := ⟨_, rfl⟩
 unfold optS
 dsimp only
 rw [ho]
 obtain ⟨r, hr⟩ : ∃ r, o.getD default = r := ⟨_, rfl⟩
 obtain ⟨k, hk⟩ : ∃ k, o.isSome = k := ⟨_, rfl⟩
 rw [hr, hk]
 obtain ⟨ra, rb, rc⟩ := r
 dsimp only [enSt, stC]
 repeat' ((conv=>whnf);first|refine vA ?_|with_reducible first|refine v8 ?_|refine Sp.mk ?_ ?_|refine vS ?_|refine vR ?_|refine vB ?_|refine br_nt ?_|refine br_tt ?_|refine br_ff ?_|refine vP ?_|refine vQ ?_|refine vT ?_|refine vF ?_|refine br_and ?_|refine br_or ?_|refine br_d (fun _=>?_) fun _=>?_|refine vM (fun _=>?_) fun _=>?_)
 refine ⟨⟨a, b, c⟩, ?_, ⟨trivial⟩, ?_⟩
 ·repeat' ((conv=>whnf);first|with_reducible exact True.intro|exact vW|with_reducible refine And.intro ?_ ?_)
 dsimp only [enSt, stC]
 repeat' ((conv=>whnf);first|refine vA ?_|with_reducible first|refine v8 ?_|refine Sp.mk ?_ ?_|refine vS ?_|refine vR ?_|refine vB ?_|refine br_nt ?_|refine br_tt ?_|refine br_ff ?_|refine vP ?_|refine vQ ?_|refine vT ?_|refine vF ?_|refine br_and ?_|refine br_or ?_|refine br_d (fun _=>?_) fun _=>?_|refine vM (fun _=>?_) fun _=>?_)
 refine ⟨⟨a, b, c⟩, ?_, ⟨hp⟩, ?_⟩
 ·repeat' ((conv=>whnf);first|with_reducible exact True.intro|exact vW|with_reducible refine And.intro ?_ ?_)
 unfold optS
 dsimp only
 rw [ho, hr, hk]
 dsimp only [enSt, stC]
 have hbb : (k == k) = true := beq_self_eq_true _
 repeat' ((conv=>whnf);first|refine vA ?_|with_reducible first|refine v8 ?_|refine Sp.mk ?_ ?_|refine vS ?_|refine vR ?_|refine vB ?_|refine br_nt ?_|refine br_tt ?_|refine br_ff ?_|refine vP ?_|refine vQ ?_|refine vT ?_|refine vF ?_|refine br_and ?_|refine br_or ?_|refine br_d (fun _=>?_) fun _=>?_|refine vM (fun _=>?_) fun _=>?_)
 refine ⟨⟨ra, rb, rc⟩, ?_, ⟨trivial⟩, ?_⟩
 ·repeat' ((conv=>whnf);first|with_reducible exact True.intro|exact vW|with_reducible refine And.intro ?_ ?_)
 repeat' ((conv=>whnf);first|refine vA ?_|with_reducible first|refine v8 ?_|refine Sp.mk ?_ ?_|refine vS ?_|refine vR ?_|refine vB ?_|refine br_nt ?_|refine br_tt ?_|refine br_ff ?_|refine vP ?_|refine vQ ?_|refine vT ?_|refine vF ?_|refine br_and ?_|refine br_or ?_|refine br_d (fun _=>?_) fun _=>?_|refine vM (fun _=>?_) fun _=>?_)
 exact h
end Go.Proofs.YtkafoolhbflfkaaGreatDoor.Vc
end
section
/- Part BASE: all that the rows of this seat lean on. -/
namespace Go.Proofs.YtkafoolhbflfkaaGreatDoor.Vc
end Go.Proofs.YtkafoolhbflfkaaGreatDoor.Vc
end
