/- Part QL: questions about rules, by the reference. -/
import Derived.Test.YtapeebjjljohdaaGreatDoorVc7
section
namespace Go.Proofs.YtapeebjjljohdaaGreatDoor.Vc
open Go.Proofs
set_option maxRecDepth 100000
set_option maxHeartbeats 4000000
def C106w:List AV→(AV→Prop)→Prop:=con (X:=Int) (fun n=>[.int .i64 n]) (fun n=>-1≤n∧n≤9223372036854775807) fun n K=>K (.str (num n))
theorem num_m1:num (-1)=num 0:=rfl
theorem F106w:FF 72 C106w:=by
 refine fitE [(72,C106)] (by simp only [List.mem_cons,List.not_mem_nil,or_false]; rintro _ rfl; exact F106) Tryz.f72 ⟨rfl,by decide +kernel,by decide +kernel⟩ (fun _ _ _ hk h=>hk _ h) ?_
 rintro n K ⟨h1,h2⟩ h
 refine ⟨Nat.le_of_ble_eq_true rfl,?_⟩
 by_cases hn:n=-1
 ·subst hn
  repeat' (first|refine vz ?_|(conv=>whnf); first|with_reducible first|refine Sp.mk ?_ ?_|refine br_d (fun _=>?_) fun _=>?_|refine vM (fun _=>?_) fun _=>?_)
  ·(conv=>whnf)
   repeat' ((conv=>whnf); first|refine ⟨Chk.mk ⟨by decide,by decide,fun i hi=>by obtain rfl:i=0:=by omega; exact ⟨_,rfl⟩⟩,?_⟩|refine vA ?_|with_reducible first|refine v8 ?_|refine Sp.mk ?_ ?_|refine vS ?_|refine vR ?_|refine vB ?_|refine br_nt ?_|refine br_tt ?_|refine br_ff ?_|refine vP ?_|refine vQ ?_|refine vT ?_|refine vF ?_|refine br_and ?_|refine br_or ?_|refine br_d (fun _=>?_) fun _=>?_|refine vM (fun _=>?_) fun _=>?_)
   rw [str1]
   rw [num_m1,num_small (by decide) (by decide)] at h
   exact h
 ·repeat' (first|refine vz ?_|(conv=>whnf); first|with_reducible first|refine Sp.mk ?_ ?_|refine br_d (fun _=>?_) fun _=>?_|refine vM (fun _=>?_) fun _=>?_)
  ·(conv=>whnf)
   rw [if_neg (by omega:¬ 0 > n)]
   repeat' ((conv=>whnf); first|refine ⟨Chk.mk ⟨by decide,by decide,fun i hi=>by obtain rfl:i=0:=by omega; exact ⟨_,rfl⟩⟩,?_⟩|refine vA ?_|with_reducible first|refine v8 ?_|refine Sp.mk ?_ ?_|refine vS ?_|refine vR ?_|refine vB ?_|refine br_nt ?_|refine br_tt ?_|refine br_ff ?_|refine vP ?_|refine vQ ?_|refine vT ?_|refine vF ?_|refine br_and ?_|refine br_or ?_|refine br_d (fun _=>?_) fun _=>?_|refine vM (fun _=>?_) fun _=>?_)
   rw [str1,show (48+n).toNat=48+n.toNat by omega,← num_small (by omega) (by omega)]
   exact h
  ·refine Dr.mk ⟨(.rd 0 (.rd 1 (.rd 3 (.rd 4 (.rd 5 (.rd 6 (.ef 2 (.ef 7 (.rd 8 (.rd 9 (.rd 10 .dn))) .no) (.ef 7 (.rd 8 (.ef 2 (.rd 9 (.rd 10 .dn)) .no)) .no)))))))),by decide +kernel,?_⟩
   repeat' (first|refine vz ?_|(conv=>whnf); first|with_reducible first|refine Sp.mk ?_ ?_|refine br_d (fun _=>?_) fun _=>?_|refine vM (fun _=>?_) fun _=>?_)
   (conv=>whnf)
   rw [Int.tdiv_eq_ediv_of_nonneg (by omega)]
   repeat' (first|refine vz ?_|(conv=>whnf); first|with_reducible first|refine Sp.mk ?_ ?_|refine br_d (fun _=>?_) fun _=>?_|refine vM (fun _=>?_) fun _=>?_)
   (conv=>whnf)
   rw [Int.tmod_eq_emod_of_nonneg (by omega)]
   repeat' ((conv=>whnf); first|refine ⟨Chk.mk ⟨by decide,by decide,fun i hi=>by obtain rfl:i=0:=by omega; exact ⟨_,rfl⟩⟩,?_⟩|refine vA ?_|with_reducible first|refine v8 ?_|refine Sp.mk ?_ ?_|refine vS ?_|refine vR ?_|refine vB ?_|refine br_nt ?_|refine br_tt ?_|refine br_ff ?_|refine vP ?_|refine vQ ?_|refine vT ?_|refine vF ?_|refine br_and ?_|refine br_or ?_|refine br_d (fun _=>?_) fun _=>?_|refine vM (fun _=>?_) fun _=>?_)
   all_goals
    refine ⟨n / 10,?_,⟨by omega,by omega⟩,?_⟩
    ·exact wq
    have hsz:(num (n / 10)).size+1≤9223372036854775807:=by have:=num_le (n / 10); omega
    repeat' ((conv=>whnf); first|refine ⟨Chk.mk (by rw [str1]; exact hsz),?_⟩|refine ⟨Chk.mk ⟨by decide,by decide,fun i hi=>by obtain rfl:i=0:=by omega; exact ⟨_,rfl⟩⟩,?_⟩|refine vA ?_|with_reducible first|refine v8 ?_|refine Sp.mk ?_ ?_|refine vS ?_|refine vR ?_|refine vB ?_|refine br_nt ?_|refine br_tt ?_|refine br_ff ?_|refine vP ?_|refine vQ ?_|refine vT ?_|refine vF ?_|refine br_and ?_|refine br_or ?_|refine br_d (fun _=>?_) fun _=>?_|refine vM (fun _=>?_) fun _=>?_)
    rw [str1,show (48+n % 10).toNat=48+n.toNat % 10 by omega,← num_big (by omega)]
    exact h
theorem no_term (h:House):¬ termOk h []:=fun q=>by
 have:(some 0:Option Nat)=some 1:=q.2.2
 exact absurd this (by decide)
structure Pn where
 x:Place
 n:Int
def C322:List AV→(AV→Prop)→Prop:=con (X:=Pn) (fun x=>[enPl x.x,.int .i64 x.n]) (fun x=>(placeI x.x∧placeOk x.x)∧0≤x.n∧x.n<1000000) fun x K=>K (.tup [slM (if x.n<x.x.rules.length then termR x.x x.n.toNat else []),.bool (decide (x.n<x.x.rules.length))])
theorem F322:FF 102 C322:=by
 refine fitXE [(83,C35),(81,C153)] (by simp only [List.mem_cons,List.not_mem_nil,or_false]; rintro _ (rfl|rfl) <;> first|exact F35|exact F153) [] (by simp) Tryz.f102 ⟨rfl,by decide +kernel,by decide +kernel⟩ (by intro x K K2 hk h; (try dsimp only at h ⊢); intros; apply hk; first|exact h|(apply h <;> assumption)) ?_
 rintro ⟨⟨p,bs,rs⟩,n⟩ K ⟨⟨hI,hO⟩,h0,h1⟩ h
 refine ⟨Nat.le_of_ble_eq_true rfl,?_⟩
 have hI1:=hI.1
 have hI2:=hI.2.1
 have hI3:=hI.2.2
 dsimp only [enPl,plC] at h hI2 hI3 h0 h1 ⊢
 repeat' (first|refine vz ?_|(conv=>whnf); first|with_reducible first|refine Sp.mk ?_ ?_|refine br_d (fun _=>?_) fun _=>?_|refine vM (fun _=>?_) fun _=>?_)
 refine ⟨(n,0,(rs.length:Int)-1),?_,⟨trivial⟩,?_⟩
 ·exact wq
 repeat' (first|refine vz ?_|(conv=>whnf); first|with_reducible first|refine Sp.mk ?_ ?_|refine br_d (fun _=>?_) fun _=>?_|refine vM (fun _=>?_) fun _=>?_)
 ·rename_i q
  replace q:0≤n∧n≤(rs.length:Int)-1:=q
  have hn:n<rs.length:=by omega
  have hn2:n.toNat<rs.length:=by omega
  obtain ⟨ht,hT⟩:=termR_ok hO n.toNat hn2
  replace ht:rdT 49 ⟨p,bs⟩ (rs.getD n.toNat ⟨#[]⟩)=some (termR ⟨p,bs,rs⟩ n.toNat):=ht
  rw [if_pos hn,decide_eq_true hn] at h
  generalize termR ⟨p,bs,rs⟩ n.toNat=t at h ht hT
  have ht2:rdT 48 ⟨p,bs⟩ (rs.getD n.toNat ⟨#[]⟩)=some t:=(rdT_iff (by decide)).2 ((rdT_iff (by decide)).1 ht)
  refine Dr.mk ⟨(.rd 0 (.rd 1 (.rd 2 (.rd 3 (.rd 4 (.rd 5 (.rd 6 (.ef 7 (.rd 8 (.rd 9 (.rd 10 (.rd 11 .dn)))) .no)))))))),by decide +kernel,?_⟩
  repeat' (first|refine vz ?_|(conv=>whnf); first|with_reducible first|refine Sp.mk ?_ ?_|refine br_d (fun _=>?_) fun _=>?_|refine vM (fun _=>?_) fun _=>?_)
  refine ⟨⟨⟨p,bs⟩,rs.getD n.toNat ⟨#[]⟩⟩,?_,⟨hI1,getD_len hI3 hn2⟩,?_⟩
  ·exact wq
  refine And.intro (fun e=>?_) (fun u e=>?_)
  ·rw [show rdT 48 ⟨p,bs⟩ (rs.getD n.toNat ⟨#[]⟩)=none from e] at ht2
   cases ht2
  ·rw [show rdT 48 ⟨p,bs⟩ (rs.getD n.toNat ⟨#[]⟩)=some u from e] at ht2
   cases ht2
   repeat' (first|refine vz ?_|(conv=>whnf); first|with_reducible first|refine Sp.mk ?_ ?_|refine br_d (fun _=>?_) fun _=>?_|refine vM (fun _=>?_) fun _=>?_)
   refine ⟨_,?_,h⟩
   repeat' ((conv=>whnf); first|with_reducible exact True.intro|exact vW|with_reducible refine And.intro ?_ ?_)
 ·rename_i q
  replace q:¬ (0≤n∧n≤(rs.length:Int)-1):=q
  have hn:¬ n<rs.length:=by omega
  rw [if_neg hn,decide_eq_false hn] at h
  repeat' (first|refine vz ?_|(conv=>whnf); first|with_reducible first|refine Sp.mk ?_ ?_|refine br_d (fun _=>?_) fun _=>?_|refine vM (fun _=>?_) fun _=>?_)
  refine ⟨_,?_,h⟩
  repeat' ((conv=>whnf); first|with_reducible exact True.intro|exact vW|with_reducible refine And.intro ?_ ?_)
  all_goals exact Chk.mk ⟨rfl,fun i hi=>absurd hi (Nat.not_lt_zero _)⟩
theorem askO_least {p bs t}:askO p bs t wLeast=listT (leastF (sayl bs t (pw p).toNat) (pw p).toNat):=by unfold askO; rw [if_pos rfl]
theorem askO_count {p bs t}:askO p bs t wCount=num (sayl bs t (pw p).toNat).length:=by unfold askO; rw [if_neg (by decide),if_pos rfl]
theorem askO_needed {p bs t}:askO p bs t wNeeded=num (needF p bs t p.toNat):=by unfold askO; rw [if_neg (by decide),if_neg (by decide),if_pos rfl]
theorem askO_idle {p bs t}:askO p bs t wIdle=num (idleF bs t (pw p).toNat p.toNat):=by unfold askO; rw [if_neg (by decide),if_neg (by decide),if_neg (by decide),if_pos rfl]
theorem askO_dual {p bs t}:askO p bs t wDual=textT (dualT bs t):=by unfold askO; rw [if_neg (by decide),if_neg (by decide),if_neg (by decide),if_neg (by decide),if_pos rfl]
theorem askO_dec {p bs t}:askO p bs t wDecisive=yn (decB p bs t (pw p).toNat):=by unfold askO; rw [if_neg (by decide),if_neg (by decide),if_neg (by decide),if_neg (by decide),if_neg (by decide),if_pos rfl]
theorem askO_clash {p bs t}:askO p bs t wClash=yn (claB p bs t (pw p).toNat):=by unfold askO; rw [if_neg (by decide),if_neg (by decide),if_neg (by decide),if_neg (by decide),if_neg (by decide),if_neg (by decide)]
theorem num_what:¬ num (-1)=wWhat:=by
 rw [num_m1,num_small (by decide) (by decide)]
 decide
structure A1 where
 x:Place
 w:ByteArray
 n:Int
theorem termI_nil {p:Int} {bs:List Int} (h:houI ⟨p,bs⟩):termI ⟨p,bs⟩ []:=⟨h.1,h.2,fun m hm=>(by cases hm),(by decide:0<9223372036854775808)⟩
theorem dual_termI {p:Int} {bs:List Int} {t:List Mark} (hI:termI ⟨p,bs⟩ t) (hO:termOk ⟨p,bs⟩ t):termI ⟨p,bs⟩ (dualT bs t):=by
 refine ⟨hI.1,hI.2.1,fun m hm=>?_,by rw [dualT,List.length_map]; exact hI.2.2.2⟩
 obtain ⟨x,hx,rfl⟩:=List.mem_map.1 hm
 have h1:=hI.2.2.1 x hx
 have h2:=walk_good t 0 1 hO.2.2 x hx
 have hh:=heads_le (bs.getD x.at_.toNat 0).toNat
 unfold dualM
 split
 ·rcases h2 with ⟨_,g1,g2,g3,g4⟩|g|g <;> try omega
  have g4':x.need≤((heads (bs.getD x.at_.toNat 0).toNat:Nat):Int):=g4
  exact ⟨by unfold i64r; dsimp only; omega,h1.2.1,by unfold i64r; dsimp only; omega⟩
 ·split
  ·exact ⟨by unfold i64r; dsimp only; omega,h1.2.1,h1.2.2⟩
  ·exact ⟨by unfold i64r; dsimp only; omega,h1.2.1,h1.2.2⟩
def C320:List AV→(AV→Prop)→Prop:=con (X:=A1) (fun x=>[enPl x.x,.str x.w,.int .i64 x.n]) (fun x=>(placeI x.x∧placeOk x.x)∧0≤x.n∧x.n<1000000) fun x K=>K (.str (askOne x.x x.w x.n))
theorem F320:FF 67 C320:=by
 refine fitE [(102,C322),(103,C324),(101,C165),(104,C325),(72,C106w),(105,C326),(106,C327),(108,C328),(107,C173),(110,C329),(109,C323),(111,C330)] (by simp only [List.mem_cons,List.not_mem_nil,or_false]; rintro _ (rfl|rfl|rfl|rfl|rfl|rfl|rfl|rfl|rfl|rfl|rfl|rfl) <;> first|exact F322|exact F324|exact F165|exact F325|exact F106w|exact F326|exact F327|exact F328|exact F173|exact F329|exact F323|exact F330) Tryz.f67 ⟨rfl,by decide +kernel,by decide +kernel⟩ (fun _ _ _ hk h=>hk _ h) ?_
 rintro ⟨⟨p,bs,rs⟩,w,n⟩ K ⟨⟨hI,hO⟩,h0,h1⟩ h
 refine ⟨Nat.le_of_ble_eq_true rfl,?_⟩
 have hI1:houI ⟨p,bs⟩:=hI.1
 dsimp only [enPl,plC] at h h0 h1 ⊢
 repeat' (first|refine vz ?_|(conv=>whnf); first|with_reducible first|refine Sp.mk ?_ ?_|refine br_d (fun _=>?_) fun _=>?_|refine vM (fun _=>?_) fun _=>?_)
 refine ⟨⟨⟨p,bs,rs⟩,n⟩,?_,⟨⟨hI,hO⟩,h0,h1⟩,?_⟩
 ·exact wq
 dsimp only
 unfold askOne at h
 by_cases hn:n<rs.length
 ·obtain ⟨ht,hT⟩:=termR_ok hO n.toNat (by dsimp only; omega)
  obtain ⟨hTI,_⟩:=rdT_termI hI1 ht
  replace hT:termOk ⟨p,bs⟩ (termR ⟨p,bs,rs⟩ n.toNat):=hT
  replace hTI:termI ⟨p,bs⟩ (termR ⟨p,bs,rs⟩ n.toNat):=hTI
  dsimp only at h
  rw [if_pos hn] at h ⊢
  rw [decide_eq_true hn]
  generalize termR ⟨p,bs,rs⟩ n.toNat=t at h hT hTI ⊢
  have i1:=idle_le hT (pw p).toNat
  have i2:=need_le hT
  have i3:=count_le hT
  have hd:=termOk_dual hT
  have hnl:¬ (leastF (sayl bs t (pw p).toNat) (pw p).toNat).length=0:=fun e=>least_some hT (List.length_eq_zero_iff.1 e)
  repeat' (first|refine vz ?_|(conv=>whnf); first|with_reducible first|refine Sp.mk ?_ ?_|refine br_d (fun _=>?_) fun _=>?_|refine vM (fun _=>?_) fun _=>?_)
  ·rename_i q
   subst q
   rw [if_pos (by decide),askO_least] at h
   refine ⟨(⟨p,bs⟩,t),?_,⟨hTI⟩,?_⟩
   ·exact wq
   dsimp only
   rw [if_pos hT]
   repeat' (first|refine vz ?_|(conv=>whnf); first|with_reducible first|refine Sp.mk ?_ ?_|refine br_d (fun _=>?_) fun _=>?_|refine vM (fun _=>?_) fun _=>?_)
   refine ⟨_,?_,⟨least_small hT⟩,?_⟩
   ·exact wq
   dsimp only
   rw [if_neg hnl]
   repeat' (first|refine vz ?_|(conv=>whnf); first|with_reducible first|refine Sp.mk ?_ ?_|refine br_d (fun _=>?_) fun _=>?_|refine vM (fun _=>?_) fun _=>?_)
   exact h
  ·rename_i q
   subst q
   rw [if_pos (by decide),askO_count] at h
   refine ⟨(⟨p,bs⟩,t),?_,⟨hTI⟩,?_⟩
   ·exact wq
   dsimp only
   rw [if_pos hT]
   repeat' (first|refine vz ?_|(conv=>whnf); first|with_reducible first|refine Sp.mk ?_ ?_|refine br_d (fun _=>?_) fun _=>?_|refine vM (fun _=>?_) fun _=>?_)
   refine ⟨_,?_,⟨(by omega:-1≤((sayl bs t (pw p).toNat).length:Int)∧((sayl bs t (pw p).toNat).length:Int)≤9223372036854775807)⟩,?_⟩
   ·exact wq
   repeat' (first|refine vz ?_|(conv=>whnf); first|with_reducible first|refine Sp.mk ?_ ?_|refine br_d (fun _=>?_) fun _=>?_|refine vM (fun _=>?_) fun _=>?_)
   exact h
  ·rename_i q
   subst q
   rw [if_pos (by decide),askO_needed] at h
   refine ⟨(⟨p,bs⟩,t),?_,⟨hTI⟩,?_⟩
   ·exact wq
   dsimp only
   rw [if_pos hT]
   repeat' (first|refine vz ?_|(conv=>whnf); first|with_reducible first|refine Sp.mk ?_ ?_|refine br_d (fun _=>?_) fun _=>?_|refine vM (fun _=>?_) fun _=>?_)
   refine ⟨_,?_,⟨(by omega:-1≤needF p bs t p.toNat∧needF p bs t p.toNat≤9223372036854775807)⟩,?_⟩
   ·exact wq
   repeat' (first|refine vz ?_|(conv=>whnf); first|with_reducible first|refine Sp.mk ?_ ?_|refine br_d (fun _=>?_) fun _=>?_|refine vM (fun _=>?_) fun _=>?_)
   exact h
  ·rename_i q
   subst q
   rw [if_pos (by decide),askO_idle] at h
   refine ⟨(⟨p,bs⟩,t),?_,⟨hTI⟩,?_⟩
   ·exact wq
   dsimp only
   rw [if_pos hT]
   repeat' (first|refine vz ?_|(conv=>whnf); first|with_reducible first|refine Sp.mk ?_ ?_|refine br_d (fun _=>?_) fun _=>?_|refine vM (fun _=>?_) fun _=>?_)
   refine ⟨_,?_,⟨(by omega:-1≤idleF bs t (pw p).toNat p.toNat∧idleF bs t (pw p).toNat p.toNat≤9223372036854775807)⟩,?_⟩
   ·exact wq
   repeat' (first|refine vz ?_|(conv=>whnf); first|with_reducible first|refine Sp.mk ?_ ?_|refine br_d (fun _=>?_) fun _=>?_|refine vM (fun _=>?_) fun _=>?_)
   exact h
  ·rename_i q
   subst q
   rw [if_pos (by decide),askO_dual] at h
   refine Dr.mk ⟨(.rd 0 (.rd 1 (.rd 2 (.rd 3 (.rd 4 (.ef 5 (.ef 6 (.rd 7 .dn) .no) .no)))))),by decide +kernel,?_⟩
   repeat' (first|refine vz ?_|(conv=>whnf); first|with_reducible first|refine Sp.mk ?_ ?_|refine br_d (fun _=>?_) fun _=>?_|refine vM (fun _=>?_) fun _=>?_)
   refine ⟨(⟨p,bs⟩,t),?_,⟨hTI⟩,?_⟩
   ·exact wq
   dsimp only
   rw [if_pos hT]
   repeat' (first|refine vz ?_|(conv=>whnf); first|with_reducible first|refine Sp.mk ?_ ?_|refine br_d (fun _=>?_) fun _=>?_|refine vM (fun _=>?_) fun _=>?_)
   refine ⟨(⟨p,bs⟩,dualT bs t),?_,⟨dual_termI hTI hT⟩,?_⟩
   ·exact wq
   unfold ttext
   dsimp only
   rw [if_pos hd]
   repeat' (first|refine vz ?_|(conv=>whnf); first|with_reducible first|refine Sp.mk ?_ ?_|refine br_d (fun _=>?_) fun _=>?_|refine vM (fun _=>?_) fun _=>?_)
   exact h
  ·rename_i q
   subst q
   rw [if_pos (by decide),askO_dec] at h
   refine ⟨(⟨p,bs⟩,t),?_,⟨hTI⟩,?_⟩
   ·exact wq
   dsimp only
   rw [decide_eq_true hT,Bool.true_and]
   repeat' (first|refine vz ?_|(conv=>whnf); first|with_reducible first|refine Sp.mk ?_ ?_|refine br_d (fun _=>?_) fun _=>?_|refine vM (fun _=>?_) fun _=>?_)
   refine ⟨decB p bs t (pw p).toNat,?_,⟨trivial⟩,?_⟩
   ·exact wq
   repeat' (first|refine vz ?_|(conv=>whnf); first|with_reducible first|refine Sp.mk ?_ ?_|refine br_d (fun _=>?_) fun _=>?_|refine vM (fun _=>?_) fun _=>?_)
   exact h
  ·rename_i q
   subst q
   rw [if_pos (by decide),askO_clash] at h
   refine ⟨(⟨p,bs⟩,t),?_,⟨hTI⟩,?_⟩
   ·exact wq
   dsimp only
   rw [decide_eq_true hT,Bool.true_and]
   repeat' (first|refine vz ?_|(conv=>whnf); first|with_reducible first|refine Sp.mk ?_ ?_|refine br_d (fun _=>?_) fun _=>?_|refine vM (fun _=>?_) fun _=>?_)
   refine ⟨claB p bs t (pw p).toNat,?_,⟨trivial⟩,?_⟩
   ·exact wq
   repeat' (first|refine vz ?_|(conv=>whnf); first|with_reducible first|refine Sp.mk ?_ ?_|refine br_d (fun _=>?_) fun _=>?_|refine vM (fun _=>?_) fun _=>?_)
   exact h
  ·rename_i q1 q2 q3 q4 q5 q6 q7
   rw [if_neg (by unfold onesW; simp only [List.mem_cons,List.not_mem_nil,or_false,not_or]; exact ⟨q1,q2,q3,q4,q5,q6,q7⟩)] at h
   exact h
 ·have hT:¬ termOk ⟨p,bs⟩ []:=no_term _
  have hTI:termI ⟨p,bs⟩ []:=termI_nil hI1
  have hw:(if w∈onesW then wNone else wWhat)=(if w∈onesW then (if n<(Place.rules ⟨p,bs,rs⟩).length then askO p bs (termR ⟨p,bs,rs⟩ n.toNat) w else wNone) else wWhat):=by rw [if_neg hn]
  replace h:K (.str (if w∈onesW then wNone else wWhat)):=hw ▸ h
  clear hw
  rw [if_neg hn,decide_eq_false hn]
  repeat' (first|refine vz ?_|(conv=>whnf); first|with_reducible first|refine Sp.mk ?_ ?_|refine br_d (fun _=>?_) fun _=>?_|refine vM (fun _=>?_) fun _=>?_)
  ·rename_i q
   subst q
   rw [if_pos (by decide)] at h
   refine ⟨(⟨p,bs⟩,[]),?_,⟨hTI⟩,?_⟩
   ·exact wq
   dsimp only
   rw [if_neg hT]
   repeat' (first|refine vz ?_|(conv=>whnf); first|with_reducible first|refine Sp.mk ?_ ?_|refine br_d (fun _=>?_) fun _=>?_|refine vM (fun _=>?_) fun _=>?_)
   refine ⟨[],?_,⟨by decide,fun n hn=>(by cases hn)⟩,?_⟩
   ·exact wq
   dsimp only
   rw [if_pos (show ([]:List Int).length=0 from rfl)]
   repeat' (first|refine vz ?_|(conv=>whnf); first|with_reducible first|refine Sp.mk ?_ ?_|refine br_d (fun _=>?_) fun _=>?_|refine vM (fun _=>?_) fun _=>?_)
   all_goals first|exact h|(rename_i q; exact absurd q (by decide))
  ·rename_i q
   subst q
   rw [if_pos (by decide)] at h
   refine ⟨(⟨p,bs⟩,[]),?_,⟨hTI⟩,?_⟩
   ·exact wq
   dsimp only
   rw [if_neg hT]
   repeat' (first|refine vz ?_|(conv=>whnf); first|with_reducible first|refine Sp.mk ?_ ?_|refine br_d (fun _=>?_) fun _=>?_|refine vM (fun _=>?_) fun _=>?_)
   refine ⟨-1,?_,⟨by decide,by decide⟩,?_⟩
   ·exact wq
   repeat' (first|refine vz ?_|(conv=>whnf); first|with_reducible first|refine Sp.mk ?_ ?_|refine br_d (fun _=>?_) fun _=>?_|refine vM (fun _=>?_) fun _=>?_)
   all_goals first|exact h|(rename_i q; exact absurd q num_what)
  ·rename_i q
   subst q
   rw [if_pos (by decide)] at h
   refine ⟨(⟨p,bs⟩,[]),?_,⟨hTI⟩,?_⟩
   ·exact wq
   dsimp only
   rw [if_neg hT]
   repeat' (first|refine vz ?_|(conv=>whnf); first|with_reducible first|refine Sp.mk ?_ ?_|refine br_d (fun _=>?_) fun _=>?_|refine vM (fun _=>?_) fun _=>?_)
   refine ⟨-1,?_,⟨by decide,by decide⟩,?_⟩
   ·exact wq
   repeat' (first|refine vz ?_|(conv=>whnf); first|with_reducible first|refine Sp.mk ?_ ?_|refine br_d (fun _=>?_) fun _=>?_|refine vM (fun _=>?_) fun _=>?_)
   all_goals first|exact h|(rename_i q; exact absurd q num_what)
  ·rename_i q
   subst q
   rw [if_pos (by decide)] at h
   refine ⟨(⟨p,bs⟩,[]),?_,⟨hTI⟩,?_⟩
   ·exact wq
   dsimp only
   rw [if_neg hT]
   repeat' (first|refine vz ?_|(conv=>whnf); first|with_reducible first|refine Sp.mk ?_ ?_|refine br_d (fun _=>?_) fun _=>?_|refine vM (fun _=>?_) fun _=>?_)
   refine ⟨-1,?_,⟨by decide,by decide⟩,?_⟩
   ·exact wq
   repeat' (first|refine vz ?_|(conv=>whnf); first|with_reducible first|refine Sp.mk ?_ ?_|refine br_d (fun _=>?_) fun _=>?_|refine vM (fun _=>?_) fun _=>?_)
   all_goals first|exact h|(rename_i q; exact absurd q num_what)
  ·rename_i q
   subst q
   rw [if_pos (by decide)] at h
   refine Dr.mk ⟨(.rd 0 (.rd 1 (.rd 2 (.rd 3 (.rd 4 (.ef 5 (.ef 6 (.rd 7 .dn) .no) .no)))))),by decide +kernel,?_⟩
   repeat' (first|refine vz ?_|(conv=>whnf); first|with_reducible first|refine Sp.mk ?_ ?_|refine br_d (fun _=>?_) fun _=>?_|refine vM (fun _=>?_) fun _=>?_)
   refine ⟨(⟨p,bs⟩,[]),?_,⟨hTI⟩,?_⟩
   ·exact wq
   dsimp only
   rw [if_neg hT]
   repeat' (first|refine vz ?_|(conv=>whnf); first|with_reducible first|refine Sp.mk ?_ ?_|refine br_d (fun _=>?_) fun _=>?_|refine vM (fun _=>?_) fun _=>?_)
   refine ⟨(⟨p,bs⟩,[]),?_,⟨hTI⟩,?_⟩
   ·exact wq
   unfold ttext
   dsimp only
   rw [if_neg hT]
   repeat' (first|refine vz ?_|(conv=>whnf); first|with_reducible first|refine Sp.mk ?_ ?_|refine br_d (fun _=>?_) fun _=>?_|refine vM (fun _=>?_) fun _=>?_)
   all_goals first|exact h|(rename_i q; exact absurd q (by decide))
  ·rename_i q
   subst q
   rw [if_pos (by decide)] at h
   refine ⟨(⟨p,bs⟩,[]),?_,⟨hTI⟩,?_⟩
   ·exact wq
   dsimp only
   rw [decide_eq_false hT,Bool.false_and]
   repeat' (first|refine vz ?_|(conv=>whnf); first|with_reducible first|refine Sp.mk ?_ ?_|refine br_d (fun _=>?_) fun _=>?_|refine vM (fun _=>?_) fun _=>?_)
   refine ⟨false,?_,⟨trivial⟩,?_⟩
   ·exact wq
   repeat' (first|refine vz ?_|(conv=>whnf); first|with_reducible first|refine Sp.mk ?_ ?_|refine br_d (fun _=>?_) fun _=>?_|refine vM (fun _=>?_) fun _=>?_)
   all_goals first|exact h|(rename_i q; exact absurd q (by decide))
  ·rename_i q
   subst q
   rw [if_pos (by decide)] at h
   refine ⟨(⟨p,bs⟩,[]),?_,⟨hTI⟩,?_⟩
   ·exact wq
   dsimp only
   rw [decide_eq_false hT,Bool.false_and]
   repeat' (first|refine vz ?_|(conv=>whnf); first|with_reducible first|refine Sp.mk ?_ ?_|refine br_d (fun _=>?_) fun _=>?_|refine vM (fun _=>?_) fun _=>?_)
   refine ⟨false,?_,⟨trivial⟩,?_⟩
   ·exact wq
   repeat' (first|refine vz ?_|(conv=>whnf); first|with_reducible first|refine Sp.mk ?_ ?_|refine br_d (fun _=>?_) fun _=>?_|refine vM (fun _=>?_) fun _=>?_)
   all_goals first|exact h|(rename_i q; exact absurd q (by decide))
  ·rename_i q1 q2 q3 q4 q5 q6 q7 q8
   rw [if_neg (by unfold onesW; simp only [List.mem_cons,List.not_mem_nil,or_false,not_or]; exact ⟨q1,q2,q3,q4,q5,q6,q7⟩)] at h
   exact h
  ·rename_i q1 q2 q3 q4 q5 q6 q7 q8
   exact absurd rfl q8
end Go.Proofs.YtapeebjjljohdaaGreatDoor.Vc
end
section
/- Part QM: questions about rules and numbers, by the reference. -/
namespace Go.Proofs.YtapeebjjljohdaaGreatDoor.Vc
open Go.Proofs
set_option maxRecDepth 100000
set_option maxHeartbeats 4000000
structure A2 where
 x:Place
 w:ByteArray
 n:Int
 m:Int
theorem askT_consent {p bs t n}:askT p bs t wConsent n=yn (decide (crowd p n) && says bs n t):=by unfold askT; rw [if_pos rfl]
theorem askT_swings {p bs t n}:askT p bs t wSwings n=numN (swingsOf ⟨⟨p,bs⟩,t,n⟩):=by unfold askT; rw [if_neg (by decide),if_pos rfl]
theorem askT_pivots {p bs t n}:askT p bs t wPivots n=numN (pivotsOf ⟨⟨p,bs⟩,t,n⟩):=by unfold askT; rw [if_neg (by decide),if_neg (by decide)]
def C321:List AV→(AV→Prop)→Prop:=con (X:=A2) (fun x=>[enPl x.x,.str x.w,.int .i64 x.n,.int .i64 x.m]) (fun x=>((placeI x.x∧placeOk x.x)∧0≤x.n∧x.n<1000000)∧0≤x.m∧x.m<1000000) fun x K=>K (.str (askTwo x.x x.w x.n x.m))
theorem F321:FF 68 C321:=by
 refine fitE [(102,C322),(112,C209),(109,C323),(113,C21),(114,C25),(72,C106)] (by simp only [List.mem_cons,List.not_mem_nil,or_false]; rintro _ (rfl|rfl|rfl|rfl|rfl|rfl) <;> first|exact F322|exact F209|exact F323|exact F21|exact F25|exact F106) Tryz.f68 ⟨rfl,by decide +kernel,by decide +kernel⟩ (fun _ _ _ hk h=>hk _ h) ?_
 rintro ⟨⟨p,bs,rs⟩,w,n,m⟩ K ⟨⟨⟨hI,hO⟩,h0,h1⟩,m0,m1⟩ h
 refine ⟨Nat.le_of_ble_eq_true rfl,?_⟩
 have hI1:houI ⟨p,bs⟩:=hI.1
 dsimp only [enPl,plC] at h h0 h1 m0 m1 ⊢
 have hmi:i64r m:=by unfold i64r; omega
 repeat' (first|refine vz ?_|(conv=>whnf); first|with_reducible first|refine Sp.mk ?_ ?_|refine br_d (fun _=>?_) fun _=>?_|refine vM (fun _=>?_) fun _=>?_)
 refine ⟨⟨⟨p,bs,rs⟩,n⟩,?_,⟨⟨hI,hO⟩,h0,h1⟩,?_⟩
 ·exact wq
 dsimp only
 unfold askTwo at h
 by_cases hn:n<rs.length
 ·obtain ⟨ht,hT⟩:=termR_ok hO n.toNat (by dsimp only; omega)
  obtain ⟨hTI,_⟩:=rdT_termI hI1 ht
  replace hT:termOk ⟨p,bs⟩ (termR ⟨p,bs,rs⟩ n.toNat):=hT
  replace hTI:termI ⟨p,bs⟩ (termR ⟨p,bs,rs⟩ n.toNat):=hTI
  dsimp only at h
  rw [if_pos hn] at h ⊢
  rw [decide_eq_true hn]
  generalize termR ⟨p,bs,rs⟩ n.toNat=t at h hT hTI ⊢
  repeat' (first|refine vz ?_|(conv=>whnf); first|with_reducible first|refine Sp.mk ?_ ?_|refine br_d (fun _=>?_) fun _=>?_|refine vM (fun _=>?_) fun _=>?_)
  ·rename_i q
   rw [if_pos (show w∈twosW by rw [q]; decide),show askT p bs t w m=yn (decide (crowd p m) && says bs m t) by rw [q]; exact askT_consent] at h
   refine ⟨⟨⟨p,bs⟩,t,m⟩,?_,⟨hTI,hmi⟩,?_⟩
   ·exact wq
   unfold consB
   dsimp only
   rw [decide_eq_true hT,Bool.true_and]
   repeat' (first|refine vz ?_|(conv=>whnf); first|with_reducible first|refine Sp.mk ?_ ?_|refine br_d (fun _=>?_) fun _=>?_|refine vM (fun _=>?_) fun _=>?_)
   refine ⟨decide (crowd p m) && says bs m t,?_,⟨trivial⟩,?_⟩
   ·exact wq
   repeat' (first|refine vz ?_|(conv=>whnf); first|with_reducible first|refine Sp.mk ?_ ?_|refine br_d (fun _=>?_) fun _=>?_|refine vM (fun _=>?_) fun _=>?_)
   exact h
  ·rename_i q0 q
   rw [if_pos (show w∈twosW by rw [q]; decide),show askT p bs t w m=numN (swingsOf ⟨⟨p,bs⟩,t,m⟩) by rw [q]; exact askT_swings] at h
   refine ⟨⟨⟨p,bs⟩,t,m⟩,?_,⟨hTI,hmi⟩,?_⟩
   ·exact wq
   dsimp only
   have hm:=@swings_sz p bs t m
   have q9:¬ w=wPivots:=by rw [q]; decide
   generalize swingsOf ⟨⟨p,bs⟩,t,m⟩=k at hm h ⊢
   repeat' (first|refine vz ?_|(conv=>whnf); first|with_reducible first|refine Sp.mk ?_ ?_|refine br_d (fun _=>?_) fun _=>?_|refine vM (fun _=>?_) fun _=>?_)
   ·rename_i e
    rw [numN,if_pos (by omega)] at h
    exact h
   ·rename_i e
    have hm2:=hm.resolve_left (by omega)
    rw [numN,if_neg (by omega)] at h
    refine ⟨k,?_,⟨hm2⟩,?_⟩
    ·exact wq
    repeat' (first|refine vz ?_|(conv=>whnf); first|with_reducible first|refine Sp.mk ?_ ?_|refine br_d (fun _=>?_) fun _=>?_|refine vM (fun _=>?_) fun _=>?_)
    exact h
  ·rename_i q0 q1 q
   rw [if_pos (show w∈twosW by rw [q]; decide),show askT p bs t w m=numN (pivotsOf ⟨⟨p,bs⟩,t,m⟩) by rw [q]; exact askT_pivots] at h
   refine ⟨⟨⟨p,bs⟩,t,m⟩,?_,⟨hTI,hmi⟩,?_⟩
   ·exact wq
   dsimp only
   repeat' (first|refine vz ?_|(conv=>whnf); first|with_reducible first|refine Sp.mk ?_ ?_|refine br_d (fun _=>?_) fun _=>?_|refine vM (fun _=>?_) fun _=>?_)
   refine ⟨⟨⟨p,bs⟩,t,m⟩,?_,⟨hTI,hmi⟩,?_⟩
   ·exact wq
   dsimp only
   have hm:=@pivots_sz p bs t m
   generalize pivotsOf ⟨⟨p,bs⟩,t,m⟩=k at hm h ⊢
   repeat' (first|refine vz ?_|(conv=>whnf); first|with_reducible first|refine Sp.mk ?_ ?_|refine br_d (fun _=>?_) fun _=>?_|refine vM (fun _=>?_) fun _=>?_)
   ·rename_i e
    rw [numN,if_pos (by omega)] at h
    exact h
   ·rename_i e
    have hm2:=hm.resolve_left (by omega)
    rw [numN,if_neg (by omega)] at h
    refine ⟨k,?_,⟨hm2⟩,?_⟩
    ·exact wq
    repeat' (first|refine vz ?_|(conv=>whnf); first|with_reducible first|refine Sp.mk ?_ ?_|refine br_d (fun _=>?_) fun _=>?_|refine vM (fun _=>?_) fun _=>?_)
    exact h
  ·rename_i q1 q2 q3
   rw [if_neg (by unfold twosW; simp only [List.mem_cons,List.not_mem_nil,or_false,not_or]; exact ⟨q1,q2,q3⟩)] at h
   exact h
 ·have hw:(if w∈twosW then wNone else wWhat)=(if w∈twosW then (if n<(Place.rules ⟨p,bs,rs⟩).length then askT p bs (termR ⟨p,bs,rs⟩ n.toNat) w m else wNone) else wWhat):=by rw [if_neg hn]
  replace h:K (.str (if w∈twosW then wNone else wWhat)):=hw ▸ h
  clear hw
  rw [if_neg hn,decide_eq_false hn]
  repeat' (first|refine vz ?_|(conv=>whnf); first|with_reducible first|refine Sp.mk ?_ ?_|refine br_d (fun _=>?_) fun _=>?_|refine vM (fun _=>?_) fun _=>?_)
  ·rename_i q
   rw [if_pos (show w∈twosW by rw [q]; decide)] at h
   exact h
  ·rename_i q0 q
   rw [if_pos (show w∈twosW by rw [q]; decide)] at h
   exact h
  ·rename_i q0 q1 q
   rw [if_pos (show w∈twosW by rw [q]; decide)] at h
   exact h
  ·rename_i q1 q2 q3
   rw [if_neg (by unfold twosW; simp only [List.mem_cons,List.not_mem_nil,or_false,not_or]; exact ⟨q1,q2,q3⟩)] at h
   exact h
end Go.Proofs.YtapeebjjljohdaaGreatDoor.Vc
end
section
/- Part EH: results that are told anew by what they mean. -/
namespace Go.Proofs.YtapeebjjljohdaaGreatDoor.Vc
open Go.Proofs
set_option maxRecDepth 10000
def semE (u v:AV):Prop:=∀ (R:Nat→Prop) (w:World) (x:Value),PV R w u x→PV R w v x
def outS (K:AV→Prop):AV→List Obj→Prop:=out fun u=>∃ v,semE u v∧K v
theorem fitsS {P:Program} {TB:TypeId→TI} {Gl:List (Nat × Go.Obj)} {call:FuncId→List AV→List Obj→(AV→List Obj→Prop)→Prop} {X:Type} {args:X→List AV} {pre:X→Prop} {post:X→(AV→Prop)→Prop} (hT:TOk P TB) (hC:CallOk P Gl call) (hm:P.follows .mixedOrders=true) {f:FuncId} {fn:Func} (hf:FnOk P f fn) (hM:∀ x (K K':AV→Prop),(∀ r,K r→K' r)→post x K→post x K')
  (hb:∀ x (K:AV→Prop),pre x→post x K→(args x).length≤fn.ntmps∧bodyP TB call (Dr TB call) 0 fn (args x) [] (outS K)):Fits P Gl f (con args pre post):=by
 refine ⟨hf.has,fun us K K' hk ⟨x,h1,h2,h3⟩=>⟨x,h1,h2,hM x K K' hk h3⟩,?_⟩
 rintro us K ⟨x,h1,h2,h3⟩ R w xs hL ha0
 obtain ⟨e1,e2⟩:=exL_PV (R:=R) (w:=w) us (args x) h1
 have ha:ArgsV R w (args x) xs:=⟨ha0.1.trans e1,fun j hj=>e2 j (e1 ▸ hj) _ (ha0.2 j (e1 ▸ hj))⟩
 obtain ⟨g1,g2⟩:=hb x K h2.h h3
 refine (body_sound hT hC hm hf g2 hL.hr ⟨ha.1,fun j hj=>(ha.2 j hj).tr⟩ (Nat.zero_le _) g1).mono fun e w' he=>?_
 obtain ⟨r,y,o',ρ',R',rfl,hK,hh',hv,_,hx⟩:=he
 unfold outS out at hK
 split at hK
 ·rename_i u b p ev
  obtain ⟨⟨hp⟩,v,hv1,hK⟩:=hK
  have hu:=(view_VR hh' r u b p ev hp y hv).1
  refine ⟨v,y,Rall R' ρ',rfl,hK,hv1 _ _ y hu,⟨fun b hb=>?_,fun b hb=>.inl (hx.rmono b hb),fun b hb=>?_,hx.size,fun b hb=>hx.same b hb fun _ q=>(by cases q),hx.os,hx.tape,hx.output⟩⟩
  ·rcases hb with hb|⟨id,hb⟩
   ·exact (hh'.ro b hb).1
   ·exact hh'.lt id b hb
  ·rcases hb with hb|⟨id,hb⟩
   ·rcases hx.rnew b hb with q|q|⟨_,q⟩
    ·exact .inl q
    ·exact .inr q
    ·cases q
   ·rcases hx.pnew id b hb with q|⟨_,q⟩
    ·exact .inr q
    ·cases q
 ·exact hK.elim
theorem fitXS (E:Env) (hE:∀ p,p∈E→FF p.1 p.2) (G:EnvG) (hG:∀ p,p∈G→GG p.1 p.2) {X:Type} {args:X→List AV} {pre:X→Prop} {post:X→(AV→Prop)→Prop} {f:FuncId} (fn:Func) (hf:FnOk Tryz.prog f fn) (hM:∀ x (K K':AV→Prop),(∀ r,K r→K' r)→post x K→post x K')
  (hb:∀ x (K:AV→Prop),pre x→post x K→(args x).length≤fn.ntmps∧bodyP (lookT TT) (callX E G) (Dr (lookT TT) (callX E G)) 0 fn (args x) [] (outS K)):FF f (con args pre post):=fun Gl h=>fitsS tOk (callX_ok (fun p hp=>hE p hp Gl h) fun p hp=>hG p hp Gl h) mixed hf hM hb
def cellE (u v:AV):Prop:=u=v∨u=.nils∧∃ s g,v=.sl s 0 g
theorem cellE_DR {R:Nat→Prop} {w:World} {u v:AV} {x:Value} (h:cellE u v) (hx:DR R w u x):DR R w v x:=by
 rcases h with rfl|⟨rfl,s,g,rfl⟩
 ·exact hx
 ·cases hx
  exact .sl0 _ _ _ _
theorem sl_sem {s n:Nat} {f g:Nat→List AV} (hl:∀ i,i<n→(g i).length=s) (h:∀ i,i<n→∀ j,j<s→cellE ((f i).getD j .undef) ((g i).getD j .undef)):semE (.sl s n f) (.sl s n g):=by
 intro R w x hx
 cases hx with
 |data hd =>
  refine .data ?_
  cases hd with
  |sl0=>exact .sl0 _ _ _ _
  |sl _ _ _ ad cap G h1 h2 h3 h4 h5=>exact .sl s n g ad cap G h1 h2 hl h4 fun i hi j hj=>cellE_DR (h i hi j hj) (h5 i hi j hj)
theorem semE_rfl (u:AV):semE u u:=fun _ _ _ h=>h
theorem agg_sem {l m:List AV} (hl:l.length=m.length) (h:∀ j,j<l.length→semE (l.getD j .undef) (m.getD j .undef)):semE (.agg l) (.agg m):=by
 intro R w x hx
 cases hx with
 |data hd=>cases hd
 |agg _ xs h1 h2=>exact .agg m xs (h1.trans hl) fun j hj=>h j (hl ▸ hj) R w _ (h2 j (hl ▸ hj))
end Go.Proofs.YtapeebjjljohdaaGreatDoor.Vc
end
section
/- Part XK: a deed at a desk, by the implementation. -/
namespace Go.Proofs.YtapeebjjljohdaaGreatDoor.Vc
open Go.Proofs
set_option maxRecDepth 10000
set_option maxHeartbeats 4000000
def C261:GC:=conG (X:=Desk) (fun d=>[enDe d]) (fun _=>[]) shortD fun d K=>K (deG d) [psO d.past]
theorem F261:GG 42 C261:=by
 refine fitG [(77,C157)] (by simp only [List.mem_cons,List.not_mem_nil,or_false]; rintro _ rfl <;> first|exact F157) [] (by simp) Tryz.f42 ⟨rfl,by decide +kernel,by decide +kernel⟩ (by intro x K K2 hk h; (try dsimp only at h ⊢); intros; apply hk; first|exact h|(apply h <;> assumption)) ?_
 rintro ⟨⟨p,bs,rs⟩,l⟩ K ⟨h1,h2,h3⟩ h
 refine ⟨Nat.le_of_ble_eq_true rfl,?_⟩
 unfold deG psO at h
 dsimp only [enDe,deC] at h h1 h2 h3 ⊢
 repeat' (first|refine vz ?_|(conv=>whnf); first|with_reducible first|refine Sp.mk ?_ ?_|refine br_d (fun _=>?_) fun _=>?_|refine vM (fun _=>?_) fun _=>?_)
 refine ⟨⟨p,bs,rs⟩,?_,⟨h1⟩,?_⟩
 ·exact wq
 dsimp only [enPl,plC]
 repeat' (first|refine vz ?_|(conv=>whnf); first|with_reducible first|refine Sp.mk ?_ ?_|refine br_d (fun _=>?_) fun _=>?_|refine vM (fun _=>?_) fun _=>?_)
 refine Lp.mk ⟨Nat,fun i=>[(1,.ptr 0 0),(2,.ptr 1 0),(3,.ptr 2 0),(11,slP l),(12,.int .i64 l.length),(13,.int .i64 i)],fun i=>[.box (deC ⟨⟨p,bs,rs⟩,l⟩),.box [.int .i64 0,.nils,.nils,.nils],.box [.int .i64 p,slI bs,slS rs,.row 3 3 0 (l.take i).length],psO (l.take i)],fun i=>i≤l.length,fun i=>l.length-i,⟨0,Nat.zero_le _,⟨⟨[some 0,some 1,some 2,none],[],rfl,rfl,?_,?_⟩⟩⟩,?_⟩
 ·exact wq
 ·exact wq
 intro i i1
 dsimp only [deC,psO]
 have hti:(l.take i).length≤100000:=by rw [List.length_take]; omega
 repeat' (first|refine vz ?_|(conv=>whnf); first|with_reducible first|refine Sp.mk ?_ ?_|refine br_d (fun _=>?_) fun _=>?_|refine vM (fun _=>?_) fun _=>?_)
 ·rename_i hi
  have hi:i<l.length:=by omega
  have hsn:l.take (i+1)=l.take i ++ [l.getD i default]:=take_succ' default hi
  refine Dr.mk ⟨(.rd 0 (.rd 1 (.rd 2 (.ef 3 (.ef 4 (.ef 5 (.rd 6 (.ef 7 .dn .no)) .no) .no) .no)))),by decide +kernel,?_⟩
  repeat' (first|refine vz ?_|(conv=>whnf); first|with_reducible first|refine Sp.mk ?_ ?_|refine br_d (fun _=>?_) fun _=>?_|refine vM (fun _=>?_) fun _=>?_)
  all_goals
   refine ⟨l.getD i default,?_,⟨h3 _ (getD_mem' hi)⟩,?_⟩
   ·exact wq
   dsimp only [enPl,plC]
   repeat' (first|refine vz ?_|(conv=>whnf); first|with_reducible first|refine Sp.mk ?_ ?_|refine br_d (fun _=>?_) fun _=>?_|refine vM (fun _=>?_) fun _=>?_)
  all_goals
   refine ⟨i+1,by omega,by omega,?_⟩
   first|(refine ⟨⟨[some 0,some 1,some 2,some 6],[],rfl,rfl,?_,?_⟩⟩ <;> (repeat' ((conv=>whnf); first|with_reducible exact True.intro|exact vW|with_reducible refine And.intro ?_ ?_|exact Chk.mk ⟨rfl,by rw [hsn,List.length_append]; rfl⟩|exact Chk.mk (by rw [hsn]; exact ext_push (enc:=plC) (d:=default) (l:=l.take i) (x:=l.getD i default) rfl))) <;> fail)|(refine ⟨⟨[some 0,some 1,some 2,some 5],[],rfl,rfl,?_,?_⟩⟩ <;> (repeat' ((conv=>whnf); first|with_reducible exact True.intro|exact vW|with_reducible refine And.intro ?_ ?_|exact Chk.mk ⟨rfl,by rw [hsn,List.length_append]; rfl⟩|exact Chk.mk (by rw [hsn]; exact ext_push (enc:=plC) (d:=default) (l:=l.take i) (x:=l.getD i default) rfl))) <;> fail)|(refine ⟨⟨[some 0,some 1,some 2,some 4],[],rfl,rfl,?_,?_⟩⟩ <;> (repeat' ((conv=>whnf); first|with_reducible exact True.intro|exact vW|with_reducible refine And.intro ?_ ?_|exact Chk.mk ⟨rfl,by rw [hsn,List.length_append]; rfl⟩|exact Chk.mk (by rw [hsn]; exact ext_push (enc:=plC) (d:=default) (l:=l.take i) (x:=l.getD i default) rfl))) <;> fail)
 ·rename_i hi
  rw [List.take_of_length_le (by omega)]
  repeat' (first|refine vz ?_|(conv=>whnf); first|with_reducible first|refine Sp.mk ?_ ?_|refine br_d (fun _=>?_) fun _=>?_|refine vM (fun _=>?_) fun _=>?_)
  refine ⟨_,_,[some 3],[],rfl,rfl,?_,?_,h⟩
  ·exact wq
  ·exact wq
theorem doD_back0 {d:Desk} (h:d.past.length=0):doD d backD=none:=by
 unfold doD
 rw [if_neg (by omega),show madeP d.now backD=default from made_n (by decide) (by decide) (by decide) (by decide),if_neg fun q=>no_place q.1]
theorem doD_back1 {d:Desk} (h:0<d.past.length):doD d backD=some ⟨d.past.getD (d.past.length-1) default,d.past.take (d.past.length-1)⟩:=if_pos ⟨rfl,h⟩
theorem doD_bad {d:Desk} {a:Dd} (ha:a≠backD) (h:¬ placeOk (madeP d.now a)):doD d a=none:=by
 unfold doD
 rw [if_neg fun q=>ha q.1,if_neg fun q=>h q.1]
theorem doD_same {d:Desk} {a:Dd} (ha:a≠backD) (h:madeP d.now a=d.now):doD d a=none:=by
 unfold doD
 rw [if_neg fun q=>ha q.1,h,if_neg fun q=>q.2 rfl]
theorem doD_new {d:Desk} {a:Dd} (ha:a≠backD) (hO:placeOk d.now) (h:placeOk (madeP d.now a)) (hn:madeP d.now a≠d.now):doD d a=some ⟨madeP d.now a,pushP d.past d.now⟩:=by
 unfold doD
 rw [if_neg fun q=>ha q.1,if_pos ⟨h,fun e=>hn (plT_inj h hO (by unfold ptext at e; rwa [if_pos h,if_pos hO] at e))⟩]
theorem takeP_get {L:List Place} {n i:Nat} (h:i<n):(L.take n).getD i default=L.getD i default:=by
 rw [List.getD_eq_getElem?_getD,List.getD_eq_getElem?_getD,List.getElem?_take_of_lt h]
theorem takeP_ext {l:List Place} {n:Nat} (hn:n≤l.length):(l.take n).length=n-Int.toNat 0∧∀ i,i<(l.take n).length→plC ((l.take n).getD i default)=plC (l.getD (Int.toNat 0+i) default):=⟨by rw [List.length_take]; show _=n-0; omega,fun i hi=>by
 rw [List.length_take] at hi
 rw [takeP_get (by omega)]
 show _=plC (l.getD (0+i) default)
 rw [Nat.zero_add]⟩
theorem pushP_ext {l:List Place} {x:Place} {g:Nat→List AV} (hg:g 0=plC x) (h:l.length+1 > 8):(pushP l x).length=((l.length+1:Nat):Int).toNat-Int.toNat 1∧∀ i,i<(pushP l x).length→plC ((pushP l x).getD i default)=appF l.length (fun i=>plC (l.getD i default)) g (0+Int.toNat 1+i):=by
 have e:pushP l x=(l ++ [x]).drop 1:=if_pos (by rw [List.length_append]; exact h)
 have:=ext_dropV (enc:=plC) (d:=default) (l:=l) (x:=x) (g:=g) hg
 rw [e]
 exact ⟨this.1.symm,fun i hi=>(this.2 i (by rw [this.1]; exact hi)).symm⟩
theorem pushP_ext' {l:List Place} {x:Place} {g:Nat→List AV} (hg:g 0=plC x) (h:¬ l.length+1 > 8):(pushP l x).length=l.length+1∧∀ i,i<(pushP l x).length→plC ((pushP l x).getD i default)=appF l.length (fun i=>plC (l.getD i default)) g (0+i):=by
 have e:pushP l x=l ++ [x]:=if_neg (by rw [List.length_append]; exact h)
 have:=ext_push (enc:=plC) (d:=default) (l:=l) (x:=x) (g:=g) hg
 rw [e]
 exact ⟨this.1,fun i hi=>by rw [Nat.zero_add]; exact this.2 i hi⟩
def C254:List AV→(AV→Prop)→Prop:=con (X:=De) (fun x=>[enDe x.d,ded x.a]) (fun x=>deskI x.d∧deskOk x.d∧dedI x.a) fun x K=>K (.tup [enDe ((doD x.d x.a).getD x.d),.bool (doD x.d x.a).isSome])
theorem F254:FF 57 C254:=by
 refine fitXE [(98,C262),(74,C152),(99,C263)] (by simp only [List.mem_cons,List.not_mem_nil,or_false]; rintro _ (rfl|rfl|rfl) <;> first|exact F262|exact F152|exact F263) [(42,C261)] (by simp only [List.mem_cons,List.not_mem_nil,or_false]; rintro _ rfl; exact F261) Tryz.f57 ⟨rfl,by decide +kernel,by decide +kernel⟩ (fun _ _ _ hk h=>hk _ h) ?_
 rintro ⟨⟨⟨p,bs,rs⟩,l⟩,⟨k,a,b,w⟩⟩ K ⟨hI,hO,ha⟩ h
 refine ⟨Nat.le_of_ble_eq_true rfl,?_⟩
 have hs:=deskOk_short hO
 have hs2:=hO.2.1
 dsimp only [enDe,deC,ded,encD] at hI ha hs2 ⊢
 repeat' (first|refine vz ?_|(conv=>whnf); first|with_reducible first|refine Sp.mk ?_ ?_|refine br_d (fun _=>?_) fun _=>?_|refine vM (fun _=>?_) fun _=>?_)
 refine ⟨_,_,[],[],rfl,?_,?_,⟨⟨p,bs,rs⟩,l⟩,rfl,rfl,⟨hs⟩,?_⟩
 ·exact wq
 ·exact wq
 dsimp only [deG,psO]
 replace h:K (.tup [enDe ((doD ⟨⟨p,bs,rs⟩,l⟩ ⟨k,a,b,w⟩).getD ⟨⟨p,bs,rs⟩,l⟩),.bool (doD ⟨⟨p,bs,rs⟩,l⟩ ⟨k,a,b,w⟩).isSome]):=h
 repeat' ((conv=>whnf); first|with_reducible refine wk_at 4 ?_|with_reducible refine wk_at1 4 ?_|with_reducible refine wk_at2 4 ?_|refine vA ?_|with_reducible first|refine v8 ?_|refine Sp.mk ?_ ?_|refine vS ?_|refine vR ?_|refine vB ?_|refine br_nt ?_|refine br_tt ?_|refine br_ff ?_|refine vP ?_|refine vQ ?_|refine vT ?_|refine vF ?_|refine br_and ?_|refine br_or ?_|refine br_d (fun _=>?_) fun _=>?_|refine vM (fun _=>?_) fun _=>?_)
 ·rename_i q1 q2 q3 q4
  obtain rfl:k=4:=q1
  obtain rfl:a=0:=q2
  obtain rfl:b=0:=q3
  obtain rfl:w=⟨#[]⟩:=q4
  refine ⟨Wk.go [(4,.ptr 0 0),(6,.ptr 1 0),(7,.int .i64 ((l.length:Int)-1))] [.box [.int .i64 0,.nils,.nils,.nils],.box (deC ⟨⟨p,bs,rs⟩,l⟩)] ⟨⟨[some 2,some 4],[3],rfl,rfl,?_,?_⟩⟩ ?_⟩
  ·exact wq
  ·repeat' ((conv=>whnf); first|with_reducible exact True.intro|exact vW|with_reducible refine And.intro ?_ ?_)
   all_goals exact Chk.mk ⟨rfl,by omega,fun i _=>by dsimp only; (try rw [Nat.zero_add]); try rfl⟩
  dsimp only [deC]
  by_cases hl:l.length=0
  ·rw [show doD ⟨⟨p,bs,rs⟩,l⟩ ⟨4,0,0,⟨#[]⟩⟩=none from doD_back0 hl] at h
   repeat' (first|refine vz ?_|(conv=>whnf); first|with_reducible first|refine Sp.mk ?_ ?_|refine br_d (fun _=>?_) fun _=>?_|refine vM (fun _=>?_) fun _=>?_)
   refine ⟨_,?_,h⟩
   repeat' ((conv=>whnf); first|with_reducible exact True.intro|exact vW|with_reducible refine And.intro ?_ ?_)
  ·have hlp:0<l.length:=by omega
   have hm:l.getD (l.length-1) default∈l:=getD_mem' (by omega)
   rw [show doD ⟨⟨p,bs,rs⟩,l⟩ ⟨4,0,0,⟨#[]⟩⟩=some _ from doD_back1 hlp] at h
   have e1:((l.length:Int)-1).toNat=l.length-1:=by omega
   repeat' (first|refine vz ?_|(conv=>whnf); first|with_reducible first|refine Sp.mk ?_ ?_|refine br_d (fun _=>?_) fun _=>?_|refine vM (fun _=>?_) fun _=>?_)
   refine Dr.mk ⟨(.rd 0 (.rd 1 (.rd 2 (.rd 3 (.rd 4 (.rd 5 (.rd 6 (.rd 7 (.rd 8 (.rd 9 (.ef 10 (.ef 11 (.rd 12 .dn) .no) .no))))))))))),by decide +kernel,?_⟩
   repeat' (first|refine vz ?_|(conv=>whnf); first|with_reducible first|refine Sp.mk ?_ ?_|refine br_d (fun _=>?_) fun _=>?_|refine vM (fun _=>?_) fun _=>?_)
   refine ⟨_,_,[],[],rfl,?_,?_,⟨l.getD (l.length-1) default,l.take (l.length-1)⟩,rfl,rfl,⟨⟨hs.2.2 _ hm,by dsimp only; rw [List.length_take]; omega,fun x hx=>hs.2.2 x (List.mem_of_mem_take hx)⟩⟩,?_⟩
   ·rw [e1]
    repeat' ((conv=>whnf); first|with_reducible exact True.intro|exact vW|with_reducible refine And.intro ?_ ?_)
    all_goals exact Chk.mk (takeP_ext (by omega))
   ·exact wq
   dsimp only [deG,psO]
   repeat' (first|refine vz ?_|(conv=>whnf); first|with_reducible first|refine Sp.mk ?_ ?_|refine br_d (fun _=>?_) fun _=>?_|refine vM (fun _=>?_) fun _=>?_)
   refine ⟨_,?_,h⟩
   repeat' ((conv=>whnf); first|with_reducible exact True.intro|exact vW|with_reducible refine And.intro ?_ ?_)
   all_goals exact Chk.mk ⟨rfl,fun i _=>by dsimp only; (try rw [Nat.zero_add]); try rfl⟩
 all_goals
  have hnb:(⟨k,a,b,w⟩:Dd)≠backD:=by
   intro e
   have e3:=congrArg Dd.kind e
   have e4:=congrArg Dd.a e
   have e5:=congrArg Dd.b e
   have e6:=congrArg Dd.words e
   dsimp only [backD] at e3 e4 e5 e6
   first|omega|exact absurd e6 (by assumption)
  have hMI:=madeP_I (a:=⟨k,a,b,w⟩) hI.1 hs.1 ha
  refine ⟨⟨⟨p,bs,rs⟩,⟨k,a,b,w⟩⟩,?_,⟨hI.1,hO.1,ha⟩,?_⟩
  ·exact wq
  intro y ok hy1 hy2
  dsimp only at hy1 hy2
  cases ok
  ·have hno:doD ⟨⟨p,bs,rs⟩,l⟩ ⟨k,a,b,w⟩=none:=doD_bad hnb (by dsimp only; rw [hy2 rfl]; exact no_place)
   rw [hno] at h
   obtain ⟨yp,yb,yr⟩:=y
   dsimp only [enPl,plC]
   repeat' (first|refine vz ?_|(conv=>whnf); first|with_reducible first|refine Sp.mk ?_ ?_|refine br_d (fun _=>?_) fun _=>?_|refine vM (fun _=>?_) fun _=>?_)
   refine ⟨_,?_,h⟩
   repeat' ((conv=>whnf); first|with_reducible exact True.intro|exact vW|with_reducible refine And.intro ?_ ?_)
   all_goals exact Chk.mk ⟨rfl,fun i _=>by dsimp only; (try rw [Nat.zero_add]); try rfl⟩
  ·have hy:=hy1 rfl
   rw [← hy] at hMI
   have eB:=@doD_bad ⟨⟨p,bs,rs⟩,l⟩ ⟨k,a,b,w⟩ hnb
   have eS:=@doD_same ⟨⟨p,bs,rs⟩,l⟩ ⟨k,a,b,w⟩ hnb
   have eN:=@doD_new ⟨⟨p,bs,rs⟩,l⟩ ⟨k,a,b,w⟩ hnb hO.1
   dsimp only at eB eS eN
   rw [← hy] at eB eS eN
   obtain ⟨yp,yb,yr⟩:=y
   clear hy hy1 hy2
   dsimp only [enPl,plC]
   by_cases hp:placeOk ⟨yp,yb,yr⟩
   ·repeat' (first|refine vz ?_|(conv=>whnf); first|with_reducible first|refine Sp.mk ?_ ?_|refine br_d (fun _=>?_) fun _=>?_|refine vM (fun _=>?_) fun _=>?_)
    refine ⟨⟨yp,yb,yr⟩,?_,⟨hMI⟩,?_⟩
    ·exact wq
    repeat' (first|refine vz ?_|(conv=>whnf); first|with_reducible first|refine Sp.mk ?_ ?_|refine br_d (fun _=>?_) fun _=>?_|refine vM (fun _=>?_) fun _=>?_)
    refine ⟨⟨⟨yp,yb,yr⟩,⟨p,bs,rs⟩⟩,?_,⟨hMI.1.2,hMI.2.1⟩,?_⟩
    ·exact wq
    intro same hsame
    dsimp only at hsame
    cases same
    ·have hne:(⟨yp,yb,yr⟩:Place)≠⟨p,bs,rs⟩:=fun e=>by have:=hsame.2 e; cases this
     rw [eN hp hne] at h
     have hpl:(pushP l ⟨p,bs,rs⟩).length≤8:=pushP_len hs2
     have hpm:=@pushP_mem l ⟨p,bs,rs⟩
     repeat' ((conv=>whnf); first|with_reducible refine wk_at 13 ?_|with_reducible refine wk_at1 13 ?_|with_reducible refine wk_at2 13 ?_|refine vA ?_|with_reducible first|refine v8 ?_|refine Sp.mk ?_ ?_|refine vS ?_|refine vR ?_|refine vB ?_|refine br_nt ?_|refine br_tt ?_|refine br_ff ?_|refine vP ?_|refine vQ ?_|refine vT ?_|refine vF ?_|refine br_and ?_|refine br_or ?_|refine br_d (fun _=>?_) fun _=>?_|refine vM (fun _=>?_) fun _=>?_)
     ·rename_i h8
      have hx:=pushP_ext (l:=l) (x:=⟨p,bs,rs⟩) (g:=fun i=>(fun i=>[plC ⟨p,bs,rs⟩].getD i (lookT TT 28).z) (0+i)) rfl (by omega)
      generalize pushP l ⟨p,bs,rs⟩=M at hpl hpm hx h ⊢
      refine ⟨Wk.go [(4,.ptr 0 0),(8,.ptr 1 0),(10,slP M)] [.box [.int .i64 0,.nils,.nils,.nils],.box [.int .i64 yp,slI yb,slS yr]] ⟨⟨[some 2,some 5],[7],rfl,rfl,?_,?_⟩⟩ ?_⟩
      ·repeat' ((conv=>whnf); first|with_reducible exact True.intro|exact vW|with_reducible refine And.intro ?_ ?_)
       all_goals exact Chk.mk ⟨hx.1,by omega,hx.2⟩
      ·exact wq
      repeat' (first|refine vz ?_|(conv=>whnf); first|with_reducible first|refine Sp.mk ?_ ?_|refine br_d (fun _=>?_) fun _=>?_|refine vM (fun _=>?_) fun _=>?_)
      refine ⟨_,_,[],[],rfl,?_,?_,⟨⟨yp,yb,yr⟩,M⟩,rfl,rfl,⟨⟨placeOk_short hp,by dsimp only; omega,fun x hx=>(hpm x hx).elim (hs.2.2 x) fun e=>e ▸ hs.1⟩⟩,?_⟩
      ·exact wq
      ·exact wq
      dsimp only [deG,psO]
      repeat' (first|refine vz ?_|(conv=>whnf); first|with_reducible first|refine Sp.mk ?_ ?_|refine br_d (fun _=>?_) fun _=>?_|refine vM (fun _=>?_) fun _=>?_)
      refine ⟨_,?_,h⟩
      repeat' ((conv=>whnf); first|with_reducible exact True.intro|exact vW|with_reducible refine And.intro ?_ ?_)
      all_goals exact Chk.mk ⟨rfl,fun i _=>by dsimp only; (try rw [Nat.zero_add]); try rfl⟩
     ·rename_i h8
      have hx:=pushP_ext' (l:=l) (x:=⟨p,bs,rs⟩) (g:=fun i=>(fun i=>[plC ⟨p,bs,rs⟩].getD i (lookT TT 28).z) (0+i)) rfl (by omega)
      generalize pushP l ⟨p,bs,rs⟩=M at hpl hpm hx h ⊢
      refine ⟨Wk.go [(4,.ptr 0 0),(8,.ptr 1 0),(10,slP M)] [.box [.int .i64 0,.nils,.nils,.nils],.box [.int .i64 yp,slI yb,slS yr]] ⟨⟨[some 2,some 5],[7],rfl,rfl,?_,?_⟩⟩ ?_⟩
      ·repeat' ((conv=>whnf); first|with_reducible exact True.intro|exact vW|with_reducible refine And.intro ?_ ?_)
       all_goals exact Chk.mk ⟨hx.1,by omega,hx.2⟩
      ·exact wq
      repeat' (first|refine vz ?_|(conv=>whnf); first|with_reducible first|refine Sp.mk ?_ ?_|refine br_d (fun _=>?_) fun _=>?_|refine vM (fun _=>?_) fun _=>?_)
      refine ⟨_,_,[],[],rfl,?_,?_,⟨⟨yp,yb,yr⟩,M⟩,rfl,rfl,⟨⟨placeOk_short hp,by dsimp only; omega,fun x hx=>(hpm x hx).elim (hs.2.2 x) fun e=>e ▸ hs.1⟩⟩,?_⟩
      ·exact wq
      ·exact wq
      dsimp only [deG,psO]
      repeat' (first|refine vz ?_|(conv=>whnf); first|with_reducible first|refine Sp.mk ?_ ?_|refine br_d (fun _=>?_) fun _=>?_|refine vM (fun _=>?_) fun _=>?_)
      refine ⟨_,?_,h⟩
      repeat' ((conv=>whnf); first|with_reducible exact True.intro|exact vW|with_reducible refine And.intro ?_ ?_)
      all_goals exact Chk.mk ⟨rfl,fun i _=>by dsimp only; (try rw [Nat.zero_add]); try rfl⟩
    ·rw [eS (hsame.1 rfl)] at h
     repeat' (first|refine vz ?_|(conv=>whnf); first|with_reducible first|refine Sp.mk ?_ ?_|refine br_d (fun _=>?_) fun _=>?_|refine vM (fun _=>?_) fun _=>?_)
     refine ⟨_,?_,h⟩
     repeat' ((conv=>whnf); first|with_reducible exact True.intro|exact vW|with_reducible refine And.intro ?_ ?_)
     all_goals exact Chk.mk ⟨rfl,fun i _=>by dsimp only; (try rw [Nat.zero_add]); try rfl⟩
   ·rw [eB hp] at h
    repeat' (first|refine vz ?_|(conv=>whnf); first|with_reducible first|refine Sp.mk ?_ ?_|refine br_d (fun _=>?_) fun _=>?_|refine vM (fun _=>?_) fun _=>?_)
    refine ⟨⟨yp,yb,yr⟩,?_,⟨hMI⟩,?_⟩
    ·exact wq
    repeat' (first|refine vz ?_|(conv=>whnf); first|with_reducible first|refine Sp.mk ?_ ?_|refine br_d (fun _=>?_) fun _=>?_|refine vM (fun _=>?_) fun _=>?_)
    refine ⟨_,?_,h⟩
    repeat' ((conv=>whnf); first|with_reducible exact True.intro|exact vW|with_reducible refine And.intro ?_ ?_)
    all_goals exact Chk.mk ⟨rfl,fun i _=>by dsimp only; (try rw [Nat.zero_add]); try rfl⟩
end Go.Proofs.YtapeebjjljohdaaGreatDoor.Vc
end
section
/- Part XE: the laws on texts of deeds that are read. -/
namespace Go.Proofs.YtapeebjjljohdaaGreatDoor.Vc
open Go.Proofs
set_option maxRecDepth 10000
set_option maxHeartbeats 4000000
theorem drawnP.S {x:Place} (h:drawnP x):placeS x:=⟨h.I,h.bl,Nat.le_trans h.rl (by decide)⟩
end Go.Proofs.YtapeebjjljohdaaGreatDoor.Vc
end
section
/- Part XH: deeds that are drawn; the laws on journals. -/
namespace Go.Proofs.YtapeebjjljohdaaGreatDoor.Vc
open Go.Proofs
set_option maxRecDepth 10000
set_option maxHeartbeats 4000000
def C255:GC:=conG (X:=Pr) (fun x=>[.ptr 0 0,enPl x.x]) (fun x=>[rdO x.r.b x.r.p]) (fun x=>x.r.okn 449000000∧placeS x.x) fun x K=>∀ (l:List Dd) (p':Int),x.r.p≤p'→p'≤x.r.p+2000→l.length≤5→(∀ a∈l,drawnA a)→K (.row 1 4 0 l.length) [rdO x.r.b p',.row 4 l.length fun i=>encD (l.getD i default)]
theorem F255:GG 51 C255:=by
 refine fitG [] (by simp) [(38,C52),(71,C184)] (by simp only [List.mem_cons,List.not_mem_nil,or_false]; rintro _ (rfl|rfl) <;> first|exact F52|exact F184) Tryz.f51 ⟨rfl,by decide +kernel,by decide +kernel⟩ (by intro x K K2 hk h; (try dsimp only at h ⊢); intros; apply hk; first|exact h|(apply h <;> assumption)) ?_
 rintro ⟨⟨b,p⟩,⟨q,bs,rs⟩⟩ K ⟨⟨h1,h2,h3,h4⟩,hS⟩ h
 refine ⟨Nat.le_of_ble_eq_true rfl,?_⟩
 dsimp only [enPl,plC] at h h1 h2 h3 h4 ⊢
 repeat' (first|refine vz ?_|(conv=>whnf); first|with_reducible first|refine Sp.mk ?_ ?_|refine br_d (fun _=>?_) fun _=>?_|refine vM (fun _=>?_) fun _=>?_)
 refine ⟨_,_,[0],[],rfl,?_,?_,(⟨b,p⟩,6),rfl,rfl,⟨⟨h1,h2,?_,?_⟩,?_⟩,?_⟩
 ·repeat' ((conv=>whnf); first|with_reducible exact True.intro|exact vW|with_reducible refine And.intro ?_ ?_)
  try exact Chk.mk (by rw [pw_sh (by assumption)])
 ·exact wq
 ·dsimp only; omega
 ·dsimp only; omega
 ·unfold i64r; dsimp only; omega
 intro k p1 a0 a1 a2
 dsimp only at a0 a1 a2
 repeat' (first|refine vz ?_|(conv=>whnf); first|with_reducible first|refine Sp.mk ?_ ?_|refine br_d (fun _=>?_) fun _=>?_|refine vM (fun _=>?_) fun _=>?_)
 refine Lp.mk ⟨List Dd × Int × Int,fun x=>[(0,.ptr 0 0),(3,.ptr 1 0),(5,.row 2 4 0 x.1.length),(6,.int .i64 x.2.1)],fun x=>[rdO b x.2.2,.box [.int .i64 q,slI bs,slS rs],.row 4 x.1.length fun i=>encD (x.1.getD i default)],
  fun x=>0≤x.2.1∧x.2.1+x.1.length=k∧p1≤x.2.2∧x.2.2≤p1+250*x.1.length∧∀ a∈x.1,drawnA a,fun x=>x.2.1.toNat,⟨([],k,p1),⟨by dsimp only; omega,by simp,by dsimp only; omega,by simp,(fun _ g=>by cases g)⟩,⟨⟨[some 0,some 1,none],[],rfl,rfl,?_,?_⟩⟩⟩,?_⟩
 ·exact wq
 ·exact wq
 rintro ⟨l,j,p2⟩ ⟨i1,i2,i3,i4,i5⟩
 dsimp only at i1 i2 i3 i4 i5 ⊢
 repeat' (first|refine vz ?_|(conv=>whnf); first|with_reducible first|refine Sp.mk ?_ ?_|refine br_d (fun _=>?_) fun _=>?_|refine vM (fun _=>?_) fun _=>?_)
 ·refine ⟨_,_,[0],[],rfl,?_,?_,⟨⟨b,p2⟩,⟨q,bs,rs⟩⟩,rfl,rfl,⟨⟨h1,h2,by dsimp only; omega,by dsimp only; omega⟩,hS⟩,?_⟩
  ·exact wq
  ·exact wq
  rintro ⟨k',a,b',w⟩ p3 a1 a2 ha
  dsimp only [ded,encD] at a1 a2 ⊢
  repeat' (first|refine vz ?_|(conv=>whnf); first|with_reducible first|refine Sp.mk ?_ ?_|refine br_d (fun _=>?_) fun _=>?_|refine vM (fun _=>?_) fun _=>?_)
  refine ⟨(l ++ [⟨k',a,b',w⟩],j-1,p3),⟨by dsimp only; omega,by simp only [List.length_append,List.length_cons,List.length_nil]; omega,by dsimp only; omega,by simp only [List.length_append,List.length_cons,List.length_nil]; omega,fun y hy=>(List.mem_append.1 hy).elim (i5 y) fun g=>by rw [List.mem_singleton.1 g]; exact ha⟩,by dsimp only; omega,?_⟩
  first|(refine ⟨⟨[some 0,some 1,some 4],[],rfl,rfl,?_,?_⟩⟩ <;> (repeat' ((conv=>whnf); first|with_reducible exact True.intro|exact vW|with_reducible refine And.intro ?_ ?_|exact Chk.mk ⟨rfl,by rw [List.length_append]; rfl⟩|exact Chk.mk (ext_push (enc:=encD) (d:=default) (l:=l) (x:=⟨k',a,b',w⟩) rfl))) <;> fail)|(refine ⟨⟨[some 0,some 1,some 5],[],rfl,rfl,?_,?_⟩⟩ <;> (repeat' ((conv=>whnf); first|with_reducible exact True.intro|exact vW|with_reducible refine And.intro ?_ ?_|exact Chk.mk ⟨rfl,by rw [List.length_append]; rfl⟩|exact Chk.mk (ext_push (enc:=encD) (d:=default) (l:=l) (x:=⟨k',a,b',w⟩) rfl))) <;> fail)|(refine ⟨⟨[some 0,some 1,some 3],[],rfl,rfl,?_,?_⟩⟩ <;> (repeat' ((conv=>whnf); first|with_reducible exact True.intro|exact vW|with_reducible refine And.intro ?_ ?_|exact Chk.mk ⟨rfl,by rw [List.length_append]; rfl⟩|exact Chk.mk (ext_push (enc:=encD) (d:=default) (l:=l) (x:=⟨k',a,b',w⟩) rfl))) <;> fail)
 ·refine ⟨_,_,[some 0,some 2],[],rfl,rfl,?_,?_,h l p2 (by omega) (by omega) (by omega) i5⟩
  ·exact wq
  ·exact wq
def C260:GC:=conG (X:=Rd) (fun _=>[.ptr 0 0]) (fun x=>[rdO x.b x.p]) (fun x=>x.okn 400000000) fun x K=>∀ (l:List Dd) (p':Int),x.p≤p'→p'≤x.p+4000→l.length≤5→(∀ a∈l,drawnA a∧okDd a)→K (.row 1 4 0 l.length) [rdO x.b p',.row 4 l.length fun i=>encD (l.getD i default)]
theorem F260:GG 59 C260:=by
 refine fitG [(73,C105)] (by simp only [List.mem_cons,List.not_mem_nil,or_false]; rintro _ rfl <;> first|exact F105) [(70,C151),(51,C255)] (by simp only [List.mem_cons,List.not_mem_nil,or_false]; rintro _ (rfl|rfl) <;> first|exact F151|exact F255) Tryz.f59 ⟨rfl,by decide +kernel,by decide +kernel⟩ (by intro x K K2 hk h; (try dsimp only at h ⊢); intros; apply hk; first|exact h|(apply h <;> assumption)) ?_
 rintro ⟨b,p⟩ K ⟨h1,h2,h3,h4⟩ h
 refine ⟨Nat.le_of_ble_eq_true rfl,?_⟩
 dsimp only at h h1 h2 h3 h4 ⊢
 repeat' (first|refine vz ?_|(conv=>whnf); first|with_reducible first|refine Sp.mk ?_ ?_|refine br_d (fun _=>?_) fun _=>?_|refine vM (fun _=>?_) fun _=>?_)
 refine ⟨_,_,[0],[],rfl,?_,?_,(⟨b,p⟩,0),rfl,rfl,⟨⟨h1,h2,by dsimp only; omega,by dsimp only; omega⟩,by unfold i64r; dsimp only; omega⟩,?_⟩
 ·exact wq
 ·exact wq
 rintro ⟨q,bs,rs⟩ p1 y1 y2 hy
 dsimp only [enPl,plC] at y1 y2 ⊢
 repeat' (first|refine vz ?_|(conv=>whnf); first|with_reducible first|refine Sp.mk ?_ ?_|refine br_d (fun _=>?_) fun _=>?_|refine vM (fun _=>?_) fun _=>?_)
 refine ⟨_,_,[0],[],rfl,?_,?_,⟨⟨b,p1⟩,⟨q,bs,rs⟩⟩,rfl,rfl,⟨⟨h1,h2,by dsimp only; omega,by dsimp only; omega⟩,hy.S⟩,?_⟩
 ·exact wq
 ·exact wq
 rintro l p2 l1 l2 l3 hl
 dsimp only at l1 l2 l3 ⊢
 repeat' (first|refine vz ?_|(conv=>whnf); first|with_reducible first|refine Sp.mk ?_ ?_|refine br_d (fun _=>?_) fun _=>?_|refine vM (fun _=>?_) fun _=>?_)
 refine Lp.mk ⟨Nat × List Dd,fun x=>[(0,.ptr 0 0),(3,.row 1 4 0 x.2.length),(4,slD l),(5,.int .i64 x.1)],fun x=>[rdO b p2,.row 4 x.2.length fun i=>encD (x.2.getD i default)],
  fun x=>x.1≤l.length∧x.2.length≤x.1∧∀ a∈x.2,drawnA a∧okDd a,fun x=>l.length-x.1,⟨(0,[]),⟨Nat.zero_le _,Nat.zero_le _,(fun _ g=>by cases g)⟩,⟨⟨[some 0,none],[1],rfl,rfl,?_,?_⟩⟩⟩,?_⟩
 ·repeat' ((conv=>whnf); first|with_reducible exact True.intro|exact vW|with_reducible refine And.intro ?_ ?_)
  all_goals exact Chk.mk ⟨rfl,by omega,fun i _=>by dsimp only; (try rw [Nat.zero_add]); try rfl⟩
 ·exact wq
 rintro ⟨i,m⟩ ⟨i1,i2,i3⟩
 dsimp only at i1 i2 i3 ⊢
 repeat' (first|refine vz ?_|(conv=>whnf); first|with_reducible first|refine Sp.mk ?_ ?_|refine br_d (fun _=>?_) fun _=>?_|refine vM (fun _=>?_) fun _=>?_)
 ·rename_i hi
  have hi:i<l.length:=by omega
  have ha:=hl _ (getD_mem' (d:=default) hi)
  refine ⟨l.getD i default,?_,⟨by have:=ha.w0; omega⟩,?_⟩
  ·exact wq
  by_cases hO:okDd (l.getD i default)
  ·have hne:=okDd_ne hO
   dsimp only
   repeat' (first|refine vz ?_|(conv=>whnf); first|with_reducible first|refine Sp.mk ?_ ?_|refine br_d (fun _=>?_) fun _=>?_|refine vM (fun _=>?_) fun _=>?_)
   refine ⟨(i+1,m ++ [l.getD i default]),⟨by dsimp only; omega,by simp only [List.length_append,List.length_cons,List.length_nil]; omega,fun y hy=>(List.mem_append.1 hy).elim (i3 y) fun g=>by rw [List.mem_singleton.1 g]; exact ⟨ha,hO⟩⟩,by dsimp only; omega,?_⟩
   first|(refine ⟨⟨[some 0,some 3],[],rfl,rfl,?_,?_⟩⟩ <;> (repeat' ((conv=>whnf); first|with_reducible exact True.intro|exact vW|with_reducible refine And.intro ?_ ?_|exact Chk.mk ⟨rfl,by rw [List.length_append]; rfl⟩|exact Chk.mk (ext_push (enc:=encD) (d:=default) (l:=m) (x:=l.getD i default) rfl))) <;> fail)|(refine ⟨⟨[some 0,some 2],[],rfl,rfl,?_,?_⟩⟩ <;> (repeat' ((conv=>whnf); first|with_reducible exact True.intro|exact vW|with_reducible refine And.intro ?_ ?_|exact Chk.mk ⟨rfl,by rw [List.length_append]; rfl⟩|exact Chk.mk (ext_push (enc:=encD) (d:=default) (l:=m) (x:=l.getD i default) rfl))) <;> fail)
  ·have he:=deedT_no hO
   dsimp only
   repeat' (first|refine vz ?_|(conv=>whnf); first|with_reducible first|refine Sp.mk ?_ ?_|refine br_d (fun _=>?_) fun _=>?_|refine vM (fun _=>?_) fun _=>?_)
   refine ⟨(i+1,m),⟨by dsimp only; omega,by dsimp only; omega,i3⟩,by dsimp only; omega,?_⟩
   first|(refine ⟨⟨[some 0,some 1],[],rfl,rfl,?_,?_⟩⟩ <;> (repeat' ((conv=>whnf); first|with_reducible exact True.intro|exact vW|with_reducible refine And.intro ?_ ?_)) <;> fail)
 ·refine ⟨_,_,[some 0,some 1],[],rfl,rfl,?_,?_,h m p2 (by omega) (by omega) (by omega) i3⟩
  ·exact wq
  ·exact wq
def drawnL (l:List Dd):Prop:=l.length≤6∧∀ a∈l,drawnA a
theorem wsum_le {l:List Dd} {M:Nat} (h:∀ a∈l,a.words.size≤M):∀ i,i≤l.length→wsum l i≤M*i
 |0,_=>Nat.le_refl _
 |i+1,hi=>by
  have h1:=wsum_le h i (by omega)
  have h2:=h _ (getD_mem' (d:=default) hi)
  show wsum l i+_≤_
  rw [Nat.mul_add,Nat.mul_one]
  omega
theorem drawnL.j {l:List Dd} (h:drawnL l):jOk l:=by
 have:=wsum_le (M:=10000) (fun a ha=>(h.2 a ha).w0) _ (Nat.le_refl l.length)
 have:=h.1
 unfold jOk
 omega
theorem jT_le {l:List Dd}:(jT l).size≤wsum l l.length+13*l.length:=by
 unfold jT
 split
 ·exact Nat.zero_le _
 ·exact jtx_size l _
end Go.Proofs.YtapeebjjljohdaaGreatDoor.Vc
end
section
/- Part TP: desks whose past is a row of one's own. -/
namespace Go.Proofs.YtapeebjjljohdaaGreatDoor.Vc
open Go.Proofs
set_option maxRecDepth 10000
set_option maxHeartbeats 4000000
structure Dk where
 x:Place
 L:List Place
 n:Nat
def Dk.d (k:Dk):Desk:=⟨k.x,k.L.take k.n⟩
def dkV (k:Dk) (id:Nat):AV:=.agg [.int .i64 k.x.p,slI k.x.bs,slS k.x.rules,.row id 3 0 k.n]
theorem take_get {L:List Place} {n i:Nat} (h:i<n):(L.take n).getD i default=L.getD i default:=by
 rw [List.getD_eq_getElem?_getD,List.getD_eq_getElem?_getD,List.getElem?_take_of_lt h]
def C139r:GC:=conG (X:=Dk) (fun k=>[dkV k 0]) (fun k=>[psO k.L]) (fun k=>deskI k.d∧k.n≤k.L.length) fun k K=>K (.bool (decide (deskOk k.d))) [psO k.L]
theorem F139r:GG 12 C139r:=by
 refine fitG [(45,C127)] (by simp only [List.mem_cons,List.not_mem_nil,or_false]; rintro _ rfl <;> first|exact F127) [] (by simp) Tryz.f12 ⟨rfl,by decide +kernel,by decide +kernel⟩ (by intro x K K2 hk h; (try dsimp only at h ⊢); intros; apply hk; first|exact h|(apply h <;> assumption)) ?_
 rintro ⟨⟨p,bs,rs⟩,L,n⟩ K ⟨hI,hn⟩ h
 refine ⟨Nat.le_of_ble_eq_true rfl,?_⟩
 obtain ⟨l,hl⟩:∃ l,L.take n=l:=⟨_,rfl⟩
 have hll:l.length=n:=by rw [← hl,List.length_take]; exact Nat.min_eq_left hn
 have hget:∀ i,i<n→L.getD i default=l.getD i default:=fun i hi=>by rw [← hl,take_get hi]
 replace hI:deskI ⟨⟨p,bs,rs⟩,l⟩:=by rw [← hl]; exact hI
 replace h:K (.bool (decide (deskOk ⟨⟨p,bs,rs⟩,l⟩))) [psO L]:=by rw [← hl]; exact h
 have hI1:=hI.1
 have hI2:=hI.2.2
 have hI3:=hI.2.1
 dsimp only [dkV,psO] at h hI1 hI2 hI3 hn ⊢
 repeat' (first|refine vz ?_|(conv=>whnf); first|with_reducible first|refine Sp.mk ?_ ?_|refine br_d (fun _=>?_) fun _=>?_|refine vM (fun _=>?_) fun _=>?_)
 refine Lp.mk ⟨Nat,fun i=>[(1,.ptr 1 0),(3,.int .i64 i)],fun _=>[psO L,.box [.int .i64 p,slI bs,slS rs,.row 0 3 0 n]],fun i=>i≤l.length∧∀ j,j<i→placeOk (l.getD j default),fun i=>l.length-i,⟨0,⟨Nat.zero_le _,fun j hj=>absurd hj (Nat.not_lt_zero _)⟩,⟨⟨[some 0,some 1],[],rfl,rfl,?_,?_⟩⟩⟩,?_⟩
 ·exact wq
 ·exact wq
 rintro i ⟨i1,i2⟩
 dsimp only [psO]
 repeat' (first|refine vz ?_|(conv=>whnf); first|with_reducible first|refine Sp.mk ?_ ?_|refine br_d (fun _=>?_) fun _=>?_|refine vM (fun _=>?_) fun _=>?_)
 ·rename_i hi
  have hi:i<l.length:=by omega
  refine ⟨L.getD i default,?_,⟨by rw [hget i (by omega)]; exact hI2 _ (getD_mem' hi)⟩,?_⟩
  ·exact wq
  rw [hget i (by omega)]
  repeat' (first|refine vz ?_|(conv=>whnf); first|with_reducible first|refine Sp.mk ?_ ?_|refine br_d (fun _=>?_) fun _=>?_|refine vM (fun _=>?_) fun _=>?_)
  ·rename_i hb
   refine ⟨i+1,⟨by omega,fun j hj=>?_⟩,by omega,⟨⟨[some 0,some 1],[],rfl,rfl,?_,?_⟩⟩⟩
   ·by_cases e:j=i
    ·subst e; exact hb
    ·exact i2 j (by omega)
   ·exact wq
   ·exact wq
  ·rename_i hb
   rw [decide_eq_false fun q:deskOk ⟨⟨p,bs,rs⟩,l⟩=>hb (q.2.2 _ (getD_mem' hi))] at h
   refine ⟨_,_,[some 0],[],rfl,rfl,?_,?_,h⟩
   ·exact wq
   ·exact wq
 ·rename_i hi
  have hall:∀ p∈l,placeOk p:=all_of_getD (d:=default) fun j hj=>i2 j (by omega)
  refine ⟨⟨p,bs,rs⟩,?_,⟨hI1⟩,?_⟩
  ·exact wq
  repeat' (first|refine vz ?_|(conv=>whnf); first|with_reducible first|refine Sp.mk ?_ ?_|refine br_d (fun _=>?_) fun _=>?_|refine vM (fun _=>?_) fun _=>?_)
  ·rename_i hO
   have e:decide (deskOk ⟨⟨p,bs,rs⟩,l⟩)=decide ((n:Int)≤8):=decide_eq_decide.2 ⟨fun q=>by have:=q.2.1; dsimp only at this; omega,fun q=>⟨hO,by dsimp only; omega,hall⟩⟩
   rw [e] at h
   refine ⟨_,_,[some 0],[],rfl,rfl,?_,?_,h⟩
   ·exact wq
   ·exact wq
  ·rename_i hO
   rw [decide_eq_false fun q:deskOk ⟨⟨p,bs,rs⟩,l⟩=>hO q.1] at h
   refine ⟨_,_,[some 0],[],rfl,rfl,?_,?_,h⟩
   ·exact wq
   ·exact wq
def C198r:GC:=conG (X:=Dk) (fun k=>[dkV k 0]) (fun k=>[psO k.L]) (fun k=>shortD k.d∧k.n≤k.L.length) fun k K=>K (dkV k 1) [psO k.L,psO (k.L.take k.n)]
theorem F198r:GG 44 C198r:=by
 refine fitG [(80,C158)] (by simp only [List.mem_cons,List.not_mem_nil,or_false]; rintro _ rfl <;> first|exact F158) [] (by simp) Tryz.f44 ⟨rfl,by decide +kernel,by decide +kernel⟩ (by intro x K K2 hk h; (try dsimp only at h ⊢); intros; apply hk; first|exact h|(apply h <;> assumption)) ?_
 rintro ⟨⟨p,bs,rs⟩,L,n⟩ K ⟨hs,hn⟩ h
 refine ⟨Nat.le_of_ble_eq_true rfl,?_⟩
 obtain ⟨l,hl⟩:∃ l,L.take n=l:=⟨_,rfl⟩
 have hll:l.length=n:=by rw [← hl,List.length_take]; exact Nat.min_eq_left hn
 have hget:∀ i,i<n→L.getD i default=l.getD i default:=fun i hi=>by rw [← hl,take_get hi]
 replace hs:shortD ⟨⟨p,bs,rs⟩,l⟩:=by rw [← hl]; exact hs
 dsimp only [dkV] at h
 rw [hl] at h
 obtain ⟨h1,h2,h3⟩:=hs
 unfold psO at h
 dsimp only [dkV,psO] at h h1 h2 h3 hn ⊢
 repeat' (first|refine vz ?_|(conv=>whnf); first|with_reducible first|refine Sp.mk ?_ ?_|refine br_d (fun _=>?_) fun _=>?_|refine vM (fun _=>?_) fun _=>?_)
 refine ⟨⟨p,bs,rs⟩,?_,⟨h1⟩,?_⟩
 ·exact wq
 dsimp only [enPl,plC]
 repeat' (first|refine vz ?_|(conv=>whnf); first|with_reducible first|refine Sp.mk ?_ ?_|refine br_d (fun _=>?_) fun _=>?_|refine vM (fun _=>?_) fun _=>?_)
 refine Lp.mk ⟨Nat,fun i=>[(1,.ptr 1 0),(2,.ptr 2 0),(3,.ptr 3 0),(4,.int .i64 i)],fun i=>[psO L,.box [.int .i64 p,slI bs,slS rs,.row 0 3 0 n],.box [.int .i64 0,.nils,.nils,.nils],.box [.int .i64 p,slI bs,slS rs,.row 4 3 0 (l.take i).length],psO (l.take i)],fun i=>i≤l.length,fun i=>l.length-i,⟨0,Nat.zero_le _,⟨⟨[some 0,some 1,some 2,some 3,none],[],rfl,rfl,?_,?_⟩⟩⟩,?_⟩
 ·exact wq
 ·exact wq
 intro i i1
 dsimp only [psO]
 have hti:(l.take i).length≤100000:=by rw [List.length_take]; omega
 repeat' (first|refine vz ?_|(conv=>whnf); first|with_reducible first|refine Sp.mk ?_ ?_|refine br_d (fun _=>?_) fun _=>?_|refine vM (fun _=>?_) fun _=>?_)
 ·rename_i hi
  have hi:i<l.length:=by omega
  have hsn:l.take (i+1)=l.take i ++ [l.getD i default]:=take_succ' default hi
  refine Dr.mk ⟨(.rd 0 (.rd 1 (.rd 2 (.rd 3 (.rd 4 (.rd 5 (.rd 6 (.ef 7 (.ef 8 (.ef 9 (.rd 10 (.ef 11 .dn .no)) .no) .no) .no)))))))),by decide +kernel,?_⟩
  repeat' (first|refine vz ?_|(conv=>whnf); first|with_reducible first|refine Sp.mk ?_ ?_|refine br_d (fun _=>?_) fun _=>?_|refine vM (fun _=>?_) fun _=>?_)
  refine ⟨l.getD i default,?_,⟨h3 _ (getD_mem' hi)⟩,?_⟩
  ·rw [← hget i (by omega)]
   repeat' ((conv=>whnf); first|with_reducible exact True.intro|exact vW|with_reducible refine And.intro ?_ ?_)
  dsimp only [enPl,plC]
  repeat' (first|refine vz ?_|(conv=>whnf); first|with_reducible first|refine Sp.mk ?_ ?_|refine br_d (fun _=>?_) fun _=>?_|refine vM (fun _=>?_) fun _=>?_)
  refine ⟨i+1,by omega,by omega,⟨⟨[some 0,some 1,some 2,some 3,some 6],[],rfl,rfl,?_,?_⟩⟩⟩
  ·exact wq
  ·repeat' ((conv=>whnf); first|with_reducible exact True.intro|exact vW|with_reducible refine And.intro ?_ ?_)
   all_goals first|exact Chk.mk ⟨rfl,by rw [hsn,List.length_append]; rfl⟩|exact Chk.mk (by rw [hsn]; exact ext_push (enc:=plC) (d:=default) (l:=l.take i) (x:=l.getD i default) rfl)
 ·rename_i hi
  rw [List.take_of_length_le (by omega)]
  rw [← hll] at h
  repeat' (first|refine vz ?_|(conv=>whnf); first|with_reducible first|refine Sp.mk ?_ ?_|refine br_d (fun _=>?_) fun _=>?_|refine vM (fun _=>?_) fun _=>?_)
  refine ⟨_,_,[some 0,some 4],[],rfl,rfl,?_,?_,h⟩
  ·exact wq
  ·exact wq
structure Dj where
 k:Dk
 a:Dd
def C183r:GC:=conG (X:=Dj) (fun x=>[dkV x.k 0,ded x.a]) (fun x=>[psO x.k.L]) (fun x=>deskI x.k.d∧x.k.n≤x.k.L.length∧x.k.n≤7∧dedI x.a) fun x K =>
 (¬ deskOk x.k.d→K (.tup [.agg [.int .i64 0,.nils,.nils,.nils],.bool false]) [psO x.k.L]) ∧
 (deskOk x.k.d→∀ y L' n',n'≤L'.length→afterD x.k.d x.a=⟨y,L'.take n'⟩→K (.tup [dkV ⟨y,L',n'⟩ 1,.bool (canD x.k.d x.a)]) [psO x.k.L,psO L'])
theorem F183r:GG 63 C183r:=by
 refine fitG [(45,C127),(64,C142),(100,C199)] (by simp only [List.mem_cons,List.not_mem_nil,or_false]; rintro _ (rfl|rfl|rfl) <;> first|exact F127|exact F142|exact F199) [(12,C139r),(44,C198r)] (by simp only [List.mem_cons,List.not_mem_nil,or_false]; rintro _ (rfl|rfl) <;> first|exact F139r|exact F198r) Tryz.f63 ⟨rfl,by decide +kernel,by decide +kernel⟩ (by rintro x K K2 hk ⟨ha,hb⟩; exact ⟨fun q=>hk _ _ (ha q),fun q y L' n' g1 g2=>hk _ _ (hb q y L' n' g1 g2)⟩) ?_
 rintro ⟨⟨⟨p,bs,rs⟩,L,n⟩,⟨k,a,b,w⟩⟩ K ⟨hI,hn,hn7,ha⟩ ⟨hno,h⟩
 refine ⟨Nat.le_of_ble_eq_true rfl,?_⟩
 obtain ⟨l,hl⟩:∃ l,L.take n=l:=⟨_,rfl⟩
 have hll:l.length=n:=by rw [← hl,List.length_take]; exact Nat.min_eq_left hn
 have hdk:Dk.d ⟨⟨p,bs,rs⟩,L,n⟩=⟨⟨p,bs,rs⟩,l⟩:=by rw [← hl]; rfl
 dsimp only at hI h hno hn hn7 ha
 rw [hdk] at hI h hno
 dsimp only [dkV,ded,encD]
 unfold dkV at h
 dsimp only at h
 repeat' (first|refine vz ?_|(conv=>whnf); first|with_reducible first|refine Sp.mk ?_ ?_|refine br_d (fun _=>?_) fun _=>?_|refine vM (fun _=>?_) fun _=>?_)
 refine ⟨_,_,[0],[],rfl,?_,?_,⟨⟨p,bs,rs⟩,L,n⟩,rfl,rfl,⟨by rw [hdk]; exact hI,hn⟩,?_⟩
 ·exact wq
 ·exact wq
 dsimp only
 rw [hdk]
 by_cases hO:deskOk ⟨⟨p,bs,rs⟩,l⟩
 ·have hs:=deskOk_short hO
  have hs2:=hs.2.1
  dsimp only at hs2
  replace h:=h hO
  dsimp only [psO]
  repeat' (first|refine vz ?_|(conv=>whnf); first|with_reducible first|refine Sp.mk ?_ ?_|refine br_d (fun _=>?_) fun _=>?_|refine vM (fun _=>?_) fun _=>?_)
  refine ⟨_,_,[0],[],rfl,?_,?_,⟨⟨p,bs,rs⟩,L,n⟩,rfl,rfl,⟨by rw [hdk]; exact hs,hn⟩,?_⟩
  ·exact wq
  ·exact wq
  dsimp only [dkV,psO]
  rw [hl]
  repeat' ((conv=>whnf); first|with_reducible refine wk_at 9 ?_|with_reducible refine wk_at1 9 ?_|with_reducible refine wk_at2 9 ?_|refine vA ?_|with_reducible first|refine v8 ?_|refine Sp.mk ?_ ?_|refine vS ?_|refine vR ?_|refine vB ?_|refine br_nt ?_|refine br_tt ?_|refine br_ff ?_|refine vP ?_|refine vQ ?_|refine vT ?_|refine vF ?_|refine br_and ?_|refine br_or ?_|refine br_d (fun _=>?_) fun _=>?_|refine vM (fun _=>?_) fun _=>?_)
  ·rename_i q1 q2 q3 q4 q5
   have hlp:0<l.length:=by omega
   have e0:doD ⟨⟨p,bs,rs⟩,l⟩ ⟨k,a,b,w⟩=some ⟨l.getD (l.length-1) default,l.take (l.length-1)⟩:=if_pos ⟨by subst q1; subst q2; subst q3; subst q4; rfl,hlp⟩
   replace h:=h (l.getD (l.length-1) default) l (l.length-1) (by omega) (afterD_some hO e0)
   rw [canD_some hO e0] at h
   have e1:((n:Int)-1).toNat=l.length-1:=by omega
   rw [e1,Nat.zero_add]
   refine ⟨_,_,[some 0,some 4],[],rfl,rfl,?_,?_,h⟩
   ·exact wq
   ·exact wq
  all_goals
   have hnb:¬ ((⟨k,a,b,w⟩:Dd)=backD∧0<l.length):=by
    rintro ⟨e,e2⟩
    have e3:=congrArg Dd.kind e
    have e4:=congrArg Dd.a e
    have e5:=congrArg Dd.b e
    have e6:=congrArg Dd.words e
    dsimp only [backD] at e3 e4 e5 e6
    first|omega|exact absurd e6 (by assumption)
   refine ⟨Wk.go [(2,.ptr 1 0),(3,.ptr 2 0),(4,.ptr 3 0),(6,.ptr 4 0)] [psO L,.box [.int .i64 p,slI bs,slS rs,.row 0 3 0 n],.box (encD ⟨k,a,b,w⟩),.box [.int .i64 0,.nils,.nils,.nils],.box [.int .i64 p,slI bs,slS rs,.row 5 3 0 n],psO l] ⟨⟨[some 0,some 1,some 2,some 3,some 5,some 4],[],rfl,rfl,?_,?_⟩⟩ ?_⟩
   ·exact wq
   ·exact wq
   dsimp only [encD,psO]
   repeat' (first|refine vz ?_|(conv=>whnf); first|with_reducible first|refine Sp.mk ?_ ?_|refine br_d (fun _=>?_) fun _=>?_|refine vM (fun _=>?_) fun _=>?_)
   refine ⟨⟨⟨p,bs,rs⟩,⟨k,a,b,w⟩⟩,?_,⟨hI.1,hs.1,ha⟩,?_⟩
   ·exact wq
   have hMI:=madeP_I (a:=⟨k,a,b,w⟩) hI.1 hs.1 ha
   have eD:doD ⟨⟨p,bs,rs⟩,l⟩ ⟨k,a,b,w⟩=_:=if_neg hnb
   dsimp only at hMI eD ⊢
   generalize madeP ⟨p,bs,rs⟩ ⟨k,a,b,w⟩=M at hMI eD ⊢
   obtain ⟨mp,mb,mr⟩:=M
   dsimp only [enPl,plC]
   repeat' (first|refine vz ?_|(conv=>whnf); first|with_reducible first|refine Sp.mk ?_ ?_|refine br_d (fun _=>?_) fun _=>?_|refine vM (fun _=>?_) fun _=>?_)
   refine Dr.mk ⟨(.rd 0 (.ef 1 (.rd 2 (.rd 3 (.rd 4 (.rd 6 (.rd 7 (.ef 5 (.ef 8 (.rd 9 (.rd 10 .dn)) .no) .no)))))) .no)),by decide +kernel,?_⟩
   repeat' (first|refine vz ?_|(conv=>whnf); first|with_reducible first|refine Sp.mk ?_ ?_|refine br_d (fun _=>?_) fun _=>?_|refine vM (fun _=>?_) fun _=>?_)
   refine ⟨⟨mp,mb,mr⟩,?_,⟨hMI⟩,?_⟩
   ·exact wq
   repeat' (first|refine vz ?_|(conv=>whnf); first|with_reducible first|refine Sp.mk ?_ ?_|refine br_d (fun _=>?_) fun _=>?_|refine vM (fun _=>?_) fun _=>?_)
   ·rename_i hp
    replace hp:placeOk ⟨mp,mb,mr⟩:=hp
    refine ⟨⟨mp,mb,mr⟩,?_,⟨hMI⟩,?_⟩
    ·exact wq
    repeat' (first|refine vz ?_|(conv=>whnf); first|with_reducible first|refine Sp.mk ?_ ?_|refine br_d (fun _=>?_) fun _=>?_|refine vM (fun _=>?_) fun _=>?_)
    refine ⟨⟨p,bs,rs⟩,?_,⟨hI.1⟩,?_⟩
    ·exact wq
    by_cases he:ptext ⟨mp,mb,mr⟩=ptext ⟨p,bs,rs⟩
    ·replace eD:doD ⟨⟨p,bs,rs⟩,l⟩ ⟨k,a,b,w⟩=none:=eD.trans (if_neg fun q=>q.2 he)
     replace h:=h ⟨p,bs,rs⟩ l n (by omega) ((afterD_none hO eD).trans (by rw [← hll,List.take_length]))
     rw [canD_none eD] at h
     repeat' (first|refine vz ?_|(conv=>whnf); first|with_reducible first|refine Sp.mk ?_ ?_|refine br_d (fun _=>?_) fun _=>?_|refine vM (fun _=>?_) fun _=>?_)
     refine ⟨_,_,[some 0,some 5],[],rfl,rfl,?_,?_,h⟩
     ·exact wq
     ·exact wq
    ·replace eD:doD ⟨⟨p,bs,rs⟩,l⟩ ⟨k,a,b,w⟩=some ⟨⟨mp,mb,mr⟩,pushP l ⟨p,bs,rs⟩⟩:=eD.trans (if_pos ⟨hp,he⟩)
     have h8:¬ 8<(l ++ [(⟨p,bs,rs⟩:Place)]).length:=by
      simp only [List.length_append,List.length_cons,List.length_nil]
      omega
     rw [show pushP l ⟨p,bs,rs⟩=l ++ [(⟨p,bs,rs⟩:Place)] from if_neg h8] at eD
     replace h:=h ⟨mp,mb,mr⟩ (l ++ [⟨p,bs,rs⟩]) (n+1) (by rw [List.length_append,hll]; exact Nat.le_refl _) ((afterD_some hO eD).trans (by rw [List.take_of_length_le (by rw [List.length_append,hll]; exact Nat.le_refl _)]))
     rw [canD_some hO eD] at h
     repeat' (first|refine vz ?_|(conv=>whnf); first|with_reducible first|refine Sp.mk ?_ ?_|refine br_d (fun _=>?_) fun _=>?_|refine vM (fun _=>?_) fun _=>?_)
     refine ⟨_,_,[some 0,some 8],[],rfl,rfl,?_,?_,h⟩
     ·exact wq
     ·subst hll
      repeat' ((conv=>whnf); first|with_reducible exact True.intro|exact vW|with_reducible refine And.intro ?_ ?_)
      all_goals exact Chk.mk (ext_push (enc:=plC) (d:=default) (l:=l) (x:=⟨p,bs,rs⟩) rfl)
   ·rename_i hp
    replace hp:¬ placeOk ⟨mp,mb,mr⟩:=hp
    replace eD:doD ⟨⟨p,bs,rs⟩,l⟩ ⟨k,a,b,w⟩=none:=eD.trans (if_neg fun q=>hp q.1)
    replace h:=h ⟨p,bs,rs⟩ l n (by omega) ((afterD_none hO eD).trans (by rw [← hll,List.take_length]))
    rw [canD_none eD] at h
    refine ⟨_,_,[some 0,some 5],[],rfl,rfl,?_,?_,h⟩
    ·exact wq
    ·exact wq
 ·rw [decide_eq_false hO]
  replace hno:=hno hO
  dsimp only [psO] at hno ⊢
  repeat' (first|refine vz ?_|(conv=>whnf); first|with_reducible first|refine Sp.mk ?_ ?_|refine br_d (fun _=>?_) fun _=>?_|refine vM (fun _=>?_) fun _=>?_)
  refine ⟨_,_,[some 0],[],rfl,rfl,?_,?_,hno⟩
  ·exact wq
  ·exact wq
end Go.Proofs.YtapeebjjljohdaaGreatDoor.Vc
end
section
/- Part TQ: desks that are drawn. -/
namespace Go.Proofs.YtapeebjjljohdaaGreatDoor.Vc
open Go.Proofs
set_option maxRecDepth 10000
set_option maxHeartbeats 4000000
def C133n:List AV→(AV→Prop)→Prop:=con (X:=Place) (fun x=>[enPl x]) placeI fun x K=>(placeOk x→K (.tup [.agg [.int .i64 x.p,slI x.bs,slS x.rules,.nils],.bool true]))∧(¬ placeOk x→K (.tup [.agg [.int .i64 0,.nils,.nils,.nils],.bool false]))
theorem F133n:FF 69 C133n:=by
 refine fitX [(45,C127),(80,C158)] (by simp only [List.mem_cons,List.not_mem_nil,or_false]; rintro _ (rfl|rfl) <;> first|exact F127|exact F158) [] (by simp) Tryz.f69 ⟨rfl,by decide +kernel,by decide +kernel⟩ (fun _ _ _ hk h=>⟨fun q=>hk _ (h.1 q),fun q=>hk _ (h.2 q)⟩) ?_
 rintro ⟨p,bs,rs⟩ K hI ⟨h,hno⟩
 refine ⟨Nat.le_of_ble_eq_true rfl,?_⟩
 dsimp only [enPl,plC] at h hno ⊢
 repeat' (first|refine vz ?_|(conv=>whnf); first|with_reducible first|refine Sp.mk ?_ ?_|refine br_d (fun _=>?_) fun _=>?_|refine vM (fun _=>?_) fun _=>?_)
 refine ⟨⟨p,bs,rs⟩,?_,⟨hI⟩,?_⟩
 ·exact wq
 repeat' (first|refine vz ?_|(conv=>whnf); first|with_reducible first|refine Sp.mk ?_ ?_|refine br_d (fun _=>?_) fun _=>?_|refine vM (fun _=>?_) fun _=>?_)
 ·rename_i hO
  replace hO:placeOk ⟨p,bs,rs⟩:=hO
  refine ⟨⟨p,bs,rs⟩,?_,⟨placeOk_short hO⟩,?_⟩
  ·exact wq
  dsimp only [enPl,plC]
  repeat' (first|refine vz ?_|(conv=>whnf); first|with_reducible first|refine Sp.mk ?_ ?_|refine br_d (fun _=>?_) fun _=>?_|refine vM (fun _=>?_) fun _=>?_)
  exact h hO
 ·rename_i hO
  exact hno hO
theorem afterD_len (d:Desk) (a:Dd):(afterD d a).past.length≤d.past.length+1:=by
 unfold afterD
 split
 ·unfold doD
  split
  ·show (d.past.take _).length≤_
   rw [List.length_take]; omega
  ·split
   ·show (pushP d.past d.now).length≤_
    unfold pushP
    split
    ·rw [List.length_drop,List.length_append]; exact Nat.le_trans (Nat.sub_le _ _) (Nat.le_refl _)
    ·rw [List.length_append]; exact Nat.le_refl _
   ·exact Nat.le_succ _
 ·exact Nat.zero_le _
theorem take_len' {L:List Place} {n:Nat} (h:n≤L.length):(L.take n).length=n:=by rw [List.length_take]; exact Nat.min_eq_left h
def sameC (f:Nat→List AV) (l:List Place):Prop:=∀ i,i<l.length→∀ j,j<3→cellE ((f i).getD j .undef) ((plC (l.getD i default)).getD j .undef)
theorem sameC_rfl (l:List Place):sameC (fun i=>plC (l.getD i default)) l:=fun _ _ _ _=>.inl rfl
theorem sameC_snoc {L l:List Place} {m:Nat} {z:List AV} (hm:m≤L.length) (hl:L.take m=l):sameC (fun i=>appF m (fun i=>plC (L.getD i default)) (fun i=>(fun i=>[[AV.int .i64 0,.nils,.nils]].getD i z) (0+i)) (0+i)) (l ++ [default]):=by
 have hll:l.length=m:=by rw [← hl]; exact take_len' hm
 intro i hi j hj
 rw [List.length_append] at hi
 replace hi:i<l.length+1:=hi
 dsimp only
 rw [Nat.zero_add,List.getD_eq_getElem?_getD (l:=l ++ [default])]
 by_cases e:i<m
 ·have e':Nat.blt i m=true:=Nat.ble_eq_true_of_le e
  rw [List.getElem?_append_left (by omega),← List.getD_eq_getElem?_getD]
  unfold appF
  rw [e',cond_true,← hl,take_get e]
  exact .inl rfl
 ·obtain rfl:i=m:=by omega
  have e':Nat.blt i i=false:=by
   cases h:Nat.blt i i with
   |false=>rfl
   |true=>exact absurd (blt_t h) (Nat.lt_irrefl _)
  subst hll
  rw [List.getElem?_append_right (Nat.le_refl _),Nat.sub_self]
  unfold appF
  rw [e',cond_false,Nat.sub_self]
  rcases (show j=0∨j=1∨j=2 by omega) with rfl|rfl|rfl
  ·exact .inl rfl
  ·exact .inr ⟨rfl,_,_,rfl⟩
  ·exact .inr ⟨rfl,_,_,rfl⟩
def C167:GC:=conG (X:=Rd × Int) (fun x=>[.ptr 0 0,.int .i64 x.2]) (fun x=>[rdO x.1.b x.1.p]) (fun x=>x.1.okn 300000000∧i64r x.2) fun x K=>∀ (d:Desk) (p':Int) (f:Nat→List AV),x.1.p≤p'→p'≤x.1.p+5000→drawnD d→sameC f d.past→K (.agg [.int .i64 d.now.p,slI d.now.bs,slS d.now.rules,.sl 3 d.past.length f]) [rdO x.1.b p']
theorem F167:GG 37 C167:=by
 refine fitG [(69,C133n)] (by simp only [List.mem_cons,List.not_mem_nil,or_false]; rintro _ rfl <;> first|exact F133n) [(38,C52),(40,C53),(70,C151),(71,C184),(63,C183r)] (by simp only [List.mem_cons,List.not_mem_nil,or_false]; rintro _ (rfl|rfl|rfl|rfl|rfl) <;> first|exact F52|exact F53|exact F151|exact F184|exact F183r) Tryz.f37 ⟨rfl,by decide +kernel,by decide +kernel⟩ (by intro x K K2 hk h; (try dsimp only at h ⊢); intros; apply hk; first|exact h|(apply h <;> assumption)) ?_
 rintro ⟨⟨b,p⟩,n⟩ K ⟨⟨h1,h2,h3,h4⟩,h5⟩ h
 refine ⟨Nat.le_of_ble_eq_true rfl,?_⟩
 dsimp only at h h1 h2 h3 h4 h5 ⊢
 repeat' (first|refine vz ?_|(conv=>whnf); first|with_reducible first|refine Sp.mk ?_ ?_|refine br_d (fun _=>?_) fun _=>?_|refine vM (fun _=>?_) fun _=>?_)
 refine ⟨_,_,[0],[],rfl,?_,?_,(⟨b,p⟩,0),rfl,rfl,⟨⟨h1,h2,h3,by dsimp only; omega⟩,by unfold i64r; dsimp only; omega⟩,?_⟩
 ·exact wq
 ·exact wq
 intro y p1 y1 y2 hy
 dsimp only at y1 y2 ⊢
 repeat' (first|refine vz ?_|(conv=>whnf); first|with_reducible first|refine Sp.mk ?_ ?_|refine br_d (fun _=>?_) fun _=>?_|refine vM (fun _=>?_) fun _=>?_)
 refine ⟨y,?_,⟨hy.I⟩,?_⟩
 ·exact wq
 have hg:=newDe_good hy
 unfold newDe at hg
 obtain ⟨P,bs,rs⟩:=y
 dsimp only
 apply later
 ·intro key
  refine ⟨fun hO=>?_,fun hO=>?_⟩
  ·rw [if_pos hO] at hg
   repeat' ((conv=>whnf); first|with_reducible refine wk_at 2 ?_|with_reducible refine wk_at1 2 ?_|with_reducible refine wk_at2 2 ?_|refine vA ?_|with_reducible first|refine v8 ?_|refine Sp.mk ?_ ?_|refine vS ?_|refine vR ?_|refine vB ?_|refine br_nt ?_|refine br_tt ?_|refine br_ff ?_|refine vP ?_|refine vQ ?_|refine vT ?_|refine vF ?_|refine br_and ?_|refine br_or ?_|refine br_d (fun _=>?_) fun _=>?_|refine vM (fun _=>?_) fun _=>?_)
   obtain ⟨x,hx⟩:∃ x:Place,(⟨P,bs,rs⟩:Place)=x:=⟨_,rfl⟩
   refine ⟨Wk.go [(0,.ptr 0 0),(1,.int .i64 n),(4,.ptr 1 0),(5,.ptr 2 0)] [rdO b p1,.box [.int .i64 0,.nils,.nils,.nils],.box [.int .i64 x.p,slI x.bs,slS x.rules,.row 3 3 0 0],psO []] ⟨⟨[some 0,some 1,some 2,none],[],rfl,rfl,?_,?_⟩⟩ ?_⟩
   ·exact wq
   ·subst hx
    repeat' ((conv=>whnf); first|with_reducible exact True.intro|exact vW|with_reducible refine And.intro ?_ ?_)
   have hgx:goodD ⟨x,[]⟩:=hx ▸ hg
   clear hx
   revert x
   exact key.t
  ·rw [if_neg hO] at hg
   repeat' ((conv=>whnf); first|with_reducible refine wk_at 2 ?_|with_reducible refine wk_at1 2 ?_|with_reducible refine wk_at2 2 ?_|refine vA ?_|with_reducible first|refine v8 ?_|refine Sp.mk ?_ ?_|refine vS ?_|refine vR ?_|refine vB ?_|refine br_nt ?_|refine br_tt ?_|refine br_ff ?_|refine vP ?_|refine vQ ?_|refine vT ?_|refine vF ?_|refine br_and ?_|refine br_or ?_|refine br_d (fun _=>?_) fun _=>?_|refine vM (fun _=>?_) fun _=>?_)
   obtain ⟨x,hx⟩:∃ x:Place,(default:Place)=x:=⟨_,rfl⟩
   refine ⟨Wk.go [(0,.ptr 0 0),(1,.int .i64 n),(4,.ptr 1 0),(5,.ptr 2 0)] [rdO b p1,.box [.int .i64 0,.nils,.nils,.nils],.box [.int .i64 x.p,slI x.bs,slS x.rules,.row 3 3 0 0],psO []] ⟨⟨[some 0,some 1,some 2,none],[],rfl,rfl,?_,?_⟩⟩ ?_⟩
   ·exact wq
   ·subst hx
    repeat' ((conv=>whnf); first|with_reducible exact True.intro|exact vW|with_reducible refine And.intro ?_ ?_)
   have hgx:goodD ⟨x,[]⟩:=hx ▸ hg
   clear hx
   revert x
   exact key.t
 intro x hg
 clear hy
 repeat' (first|refine vz ?_|(conv=>whnf); first|with_reducible first|refine Sp.mk ?_ ?_|refine br_d (fun _=>?_) fun _=>?_|refine vM (fun _=>?_) fun _=>?_)
 refine ⟨_,_,[0],[],rfl,?_,?_,(⟨b,p1⟩,5),rfl,rfl,⟨⟨h1,h2,?_,?_⟩,?_⟩,?_⟩
 ·repeat' ((conv=>whnf); first|with_reducible exact True.intro|exact vW|with_reducible refine And.intro ?_ ?_)
  try exact Chk.mk (by rw [pw_sh (by assumption)])
 ·exact wq
 ·dsimp only; omega
 ·dsimp only; omega
 ·unfold i64r; dsimp only; omega
 intro k1 p2 a0 a1 a2
 dsimp only at a0 a1 a2
 repeat' (first|refine vz ?_|(conv=>whnf); first|with_reducible first|refine Sp.mk ?_ ?_|refine br_d (fun _=>?_) fun _=>?_|refine vM (fun _=>?_) fun _=>?_)
 refine Lp.mk ⟨Dk × Int × Int,fun x=>[(0,.ptr 0 0),(1,.int .i64 n),(4,.ptr 1 0),(5,.ptr 2 0),(7,.int .i64 x.2.1)],
  fun x=>[rdO b x.2.2,.box [.int .i64 0,.nils,.nils,.nils],.box [.int .i64 x.1.x.p,slI x.1.x.bs,slS x.1.x.rules,.row 3 3 0 x.1.n],psO x.1.L],
  fun x=>0≤x.2.1∧x.2.1+x.1.n≤5∧p2≤x.2.2∧x.2.2+300*x.2.1≤p2+1500∧goodD x.1.d∧x.1.n≤x.1.L.length,fun x=>x.2.1.toNat,⟨(⟨x,[],0⟩,k1,p2),⟨by dsimp only; omega,by dsimp only; omega,by dsimp only; omega,by dsimp only; omega,hg,Nat.zero_le _⟩,⟨⟨[some 0,some 1,some 2,some 3],[],rfl,rfl,?_,?_⟩⟩⟩,?_⟩
 ·exact wq
 ·exact wq
 rintro ⟨⟨⟨P',bs',rs'⟩,L,m⟩,j,q⟩ ⟨i1,i2,i3,i4,hg,hm⟩
 dsimp only at i1 i2 i3 i4 hm ⊢
 obtain ⟨l,hl⟩:∃ l,L.take m=l:=⟨_,rfl⟩
 have hll:l.length=m:=by rw [← hl]; exact take_len' hm
 have hdk:Dk.d ⟨⟨P',bs',rs'⟩,L,m⟩=⟨⟨P',bs',rs'⟩,l⟩:=by rw [← hl]; rfl
 replace hg:goodD ⟨⟨P',bs',rs'⟩,l⟩:=by rw [← hdk]; exact hg
 have hD:=hg.1
 have hq:=hD.1
 repeat' (first|refine vz ?_|(conv=>whnf); first|with_reducible first|refine Sp.mk ?_ ?_|refine br_d (fun _=>?_) fun _=>?_|refine vM (fun _=>?_) fun _=>?_)
 ·rename_i hj
  refine Dr.mk ⟨(.rd 0 (.rd 1 (.rd 2 (.rd 3 (.ef 4 (.ef 5 (.rd 6 (.rd 7 (.rd 8 (.ef 9 (.ef 10 (.rd 11 .dn) .no) .no)))) (.ef 9 (.ef 5 (.rd 6 (.rd 7 (.rd 8 (.ef 10 (.rd 11 .dn) .no)))) .no) .no)) (.ef 9 (.ef 4 (.ef 5 (.rd 6 (.rd 7 (.rd 8 (.ef 10 (.rd 11 .dn) .no)))) .no) .no) .no)))))),by decide +kernel,?_⟩
  repeat' (first|refine vz ?_|(conv=>whnf); first|with_reducible first|refine Sp.mk ?_ ?_|refine br_d (fun _=>?_) fun _=>?_|refine vM (fun _=>?_) fun _=>?_)
  all_goals
   refine ⟨_,_,[0],[],rfl,?_,?_,⟨⟨b,q⟩,⟨P',bs',rs'⟩⟩,rfl,rfl,⟨⟨h1,h2,by dsimp only; omega,by dsimp only; omega⟩,hq.i,hq.bl,Nat.le_trans hq.rl (by decide)⟩,?_⟩
   ·exact wq
   ·exact wq
   rintro ⟨k,a,b',w⟩ q' q1 q2 ha
   dsimp only [ded,encD] at q1 q2 ⊢
   repeat' (first|refine vz ?_|(conv=>whnf); first|with_reducible first|refine Sp.mk ?_ ?_|refine br_d (fun _=>?_) fun _=>?_|refine vM (fun _=>?_) fun _=>?_)
  all_goals
   refine ⟨_,_,[3],[],rfl,?_,?_,⟨⟨⟨P',bs',rs'⟩,L,m⟩,⟨k,a,b',w⟩⟩,rfl,rfl,⟨by rw [hdk]; exact hD.I,hm,by dsimp only; omega,ha.I⟩,?_⟩
   ·exact wq
   ·exact wq
   dsimp only
   rw [hdk]
   refine ⟨fun hO=>?_,fun hO y L' n' hn' he=>?_⟩
   ·repeat' (first|refine vz ?_|(conv=>whnf); first|with_reducible first|refine Sp.mk ?_ ?_|refine br_d (fun _=>?_) fun _=>?_|refine vM (fun _=>?_) fun _=>?_)
    refine ⟨(⟨⟨P',bs',rs'⟩,L,m⟩,j-1,q'),⟨by dsimp only; omega,by dsimp only; omega,by dsimp only; omega,by dsimp only; omega,by rw [hdk]; exact hg,hm⟩,by dsimp only; omega,?_⟩
    first|(refine ⟨⟨[some 0,some 1,some 2,some 3],[],rfl,rfl,?_,?_⟩⟩ <;> (repeat' ((conv=>whnf); first|with_reducible exact True.intro|exact vW|with_reducible refine And.intro ?_ ?_)) <;> fail)
   ·have hA:canD ⟨⟨P',bs',rs'⟩,l⟩ ⟨k,a,b',w⟩=true→goodD (Dk.d ⟨y,L',n'⟩):=fun hc=>by
     obtain ⟨e,e1,e2,e3⟩:=canD_t hc
     have:=doD_good hD e1 ha e2
     rw [← e3,he] at this
     exact this
    have hn2:n'≤m+1:=by
     have h1:=afterD_len ⟨⟨P',bs',rs'⟩,l⟩ ⟨k,a,b',w⟩
     rw [he] at h1
     have h2:=take_len' hn'
     dsimp only at h1
     omega
    generalize canD ⟨⟨P',bs',rs'⟩,l⟩ ⟨k,a,b',w⟩=c at hA ⊢
    obtain ⟨yp,yb,yr⟩:=y
    dsimp only [dkV]
    cases c
    ·repeat' (first|refine vz ?_|(conv=>whnf); first|with_reducible first|refine Sp.mk ?_ ?_|refine br_d (fun _=>?_) fun _=>?_|refine vM (fun _=>?_) fun _=>?_)
     refine ⟨(⟨⟨P',bs',rs'⟩,L,m⟩,j-1,q'),⟨by dsimp only; omega,by dsimp only; omega,by dsimp only; omega,by dsimp only; omega,by rw [hdk]; exact hg,hm⟩,by dsimp only; omega,?_⟩
     first|(refine ⟨⟨[some 0,some 1,some 2,some 3],[],rfl,rfl,?_,?_⟩⟩ <;> (repeat' ((conv=>whnf); first|with_reducible exact True.intro|exact vW|with_reducible refine And.intro ?_ ?_)) <;> fail)
    ·have hg':=hA rfl
     repeat' (first|refine vz ?_|(conv=>whnf); first|with_reducible first|refine Sp.mk ?_ ?_|refine br_d (fun _=>?_) fun _=>?_|refine vM (fun _=>?_) fun _=>?_)
     refine ⟨(⟨⟨yp,yb,yr⟩,L',n'⟩,j-1,q'),⟨by dsimp only; omega,by dsimp only; omega,by dsimp only; omega,by dsimp only; omega,hg',hn'⟩,by dsimp only; omega,?_⟩
     first|(refine ⟨⟨[some 0,some 1,some 2,some 4],[],rfl,rfl,?_,?_⟩⟩ <;> (repeat' ((conv=>whnf); first|with_reducible exact True.intro|exact vW|with_reducible refine And.intro ?_ ?_)) <;> fail)|(refine ⟨⟨[some 0,some 1,some 2,some 5],[],rfl,rfl,?_,?_⟩⟩ <;> (repeat' ((conv=>whnf); first|with_reducible exact True.intro|exact vW|with_reducible refine And.intro ?_ ?_)) <;> fail)
 ·repeat' (first|refine vz ?_|(conv=>whnf); first|with_reducible first|refine Sp.mk ?_ ?_|refine br_d (fun _=>?_) fun _=>?_|refine vM (fun _=>?_) fun _=>?_)
  refine ⟨_,_,[0],[],rfl,?_,?_,(⟨b,q⟩,n),rfl,rfl,⟨⟨h1,h2,by dsimp only; omega,by dsimp only; omega⟩,h5⟩,?_⟩
  ·exact wq
  ·exact wq
  intro v p' v1 v2
  dsimp only at v1 v2 ⊢
  have hsl:l.length=m∧0+m≤L.length∧∀ i,i<l.length→plC (l.getD i default)=plC (L.getD (0+i) default):=⟨hll,by omega,fun i hi=>by rw [Nat.zero_add,← hl,take_get (by omega)]⟩
  repeat' (first|refine vz ?_|(conv=>whnf); first|with_reducible first|refine Sp.mk ?_ ?_|refine br_d (fun _=>?_) fun _=>?_|refine vM (fun _=>?_) fun _=>?_)
  ·refine ⟨_,_,[0],[],rfl,?_,?_,(⟨b,p'⟩,3),rfl,rfl,⟨⟨h1,h2,?_,?_⟩,?_⟩,?_⟩
   ·repeat' ((conv=>whnf); first|with_reducible exact True.intro|exact vW|with_reducible refine And.intro ?_ ?_)
    try exact Chk.mk (by rw [pw_sh (by assumption)])
   ·exact wq
   ·dsimp only; omega
   ·dsimp only; omega
   ·unfold i64r; dsimp only; omega
   intro k5 p5 e0 e1 e2
   dsimp only at e0 e1 e2
   repeat' (first|refine vz ?_|(conv=>whnf); first|with_reducible first|refine Sp.mk ?_ ?_|refine br_d (fun _=>?_) fun _=>?_|refine vM (fun _=>?_) fun _=>?_)
   ·refine ⟨_,_,[some 0],[3],rfl,rfl,?_,?_,h ⟨⟨P',bs',[]⟩,l⟩ p5 _ (by omega) (by omega) ⟨⟨⟨hq.i.1,(by decide:0<9223372036854775808),fun _ hb=>by cases hb⟩,hq.bl,(by decide:0≤4),fun _ hb=>by cases hb⟩,hD.2⟩ (sameC_rfl _)⟩
    ·repeat' ((conv=>whnf); first|with_reducible exact True.intro|exact vW|with_reducible refine And.intro ?_ ?_)
     all_goals exact Chk.mk hsl
    ·exact wq
   ·obtain ⟨lp,l9,lq⟩:=hD
    dsimp only at lp l9 lq
    have hx:(l ++ [(default:Place)]).length=m+1:=by rw [List.length_append,hll]; rfl
    refine ⟨_,_,[some 0],[5],rfl,rfl,?_,?_,h ⟨⟨P',bs',rs'⟩,l ++ [default]⟩ p5 _ (by omega) (by omega) ⟨lp,by dsimp only; rw [List.length_append]; show l.length+1≤9; omega,fun z hz=>(List.mem_append.1 hz).elim (fun k=>lq z k) fun k=>by rw [List.mem_singleton.1 k]; exact drawnQ0⟩ (sameC_snoc hm hl (z:=(lookT TT 28).z))⟩
    ·repeat' ((conv=>whnf); first|with_reducible exact True.intro|exact vW|with_reducible refine And.intro ?_ ?_)
     all_goals exact Chk.mk ⟨hx,by omega,fun i hi=>rfl⟩
    ·exact wq
   ·refine ⟨_,_,[some 0],[],rfl,rfl,?_,?_,h default p5 _ (by omega) (by omega) drawnD0 (sameC_rfl _)⟩
    ·exact wq
    ·exact wq
  ·refine ⟨_,_,[some 0],[3],rfl,rfl,?_,?_,h ⟨⟨P',bs',rs'⟩,l⟩ p' _ (by omega) (by omega) hD (sameC_rfl _)⟩
   ·repeat' ((conv=>whnf); first|with_reducible exact True.intro|exact vW|with_reducible refine And.intro ?_ ?_)
    all_goals exact Chk.mk hsl
   ·exact wq
end Go.Proofs.YtapeebjjljohdaaGreatDoor.Vc
end
section
/- Part TR: the law of desks. -/
namespace Go.Proofs.YtapeebjjljohdaaGreatDoor.Vc
open Go.Proofs
set_option maxRecDepth 10000
set_option maxHeartbeats 4000000
theorem desk_sem (d:Desk) {f:Nat→List AV} (h:sameC f d.past):semE (.agg [.int .i64 d.now.p,slI d.now.bs,slS d.now.rules,.sl 3 d.past.length f]) (enDe d):=by
 refine agg_sem rfl fun j hj=>?_
 replace hj:j<4:=hj
 rcases (show j=0∨j=1∨j=2∨j=3 by omega) with rfl|rfl|rfl|rfl
 ·exact semE_rfl _
 ·exact semE_rfl _
 ·exact semE_rfl _
 ·exact sl_sem (fun i _=>rfl) h
end Go.Proofs.YtapeebjjljohdaaGreatDoor.Vc
end
section
/- Part XL: deeds at desks, one and many, by both sides; drawn ones. -/
namespace Go.Proofs.YtapeebjjljohdaaGreatDoor.Vc
open Go.Proofs
set_option maxRecDepth 10000
set_option maxHeartbeats 4000000
theorem deskOk_I {d:Desk} (h:deskOk d):deskI d:=⟨I_of h.1,by have:=h.2.1; omega,fun p hp=>I_of (h.2.2 p hp)⟩
def C239:=C183
theorem F239:FF 24 C239:=by
 refine fitXE [(41,C159),(57,C254)] (by simp only [List.mem_cons,List.not_mem_nil,or_false]; rintro _ (rfl|rfl) <;> first|exact F159|exact F254) [] (by simp) Tryz.f24 ⟨rfl,by decide +kernel,by decide +kernel⟩ (by intro x K K2 hk h; (try dsimp only at h ⊢); intros; apply hk; first|exact h|(apply h <;> assumption)) ?_
 rintro ⟨⟨⟨p,bs,rs⟩,l⟩,⟨k,a,b,w⟩⟩ K ⟨hI,ha⟩ h
 refine ⟨Nat.le_of_ble_eq_true rfl,?_⟩
 replace h:K (.tup [enDe (afterD ⟨⟨p,bs,rs⟩,l⟩ ⟨k,a,b,w⟩),.bool (canD ⟨⟨p,bs,rs⟩,l⟩ ⟨k,a,b,w⟩)]):=h
 unfold afterD canD at h
 dsimp only [enDe,deC,ded,encD] at hI ha ⊢
 repeat' (first|refine vz ?_|(conv=>whnf); first|with_reducible first|refine Sp.mk ?_ ?_|refine br_d (fun _=>?_) fun _=>?_|refine vM (fun _=>?_) fun _=>?_)
 refine ⟨⟨⟨p,bs,rs⟩,l⟩,?_,⟨hI⟩,?_⟩
 ·exact wq
 by_cases hO:deskOk ⟨⟨p,bs,rs⟩,l⟩
 ·rw [if_pos hO,decide_eq_true hO,Bool.true_and] at h
  repeat' (first|refine vz ?_|(conv=>whnf); first|with_reducible first|refine Sp.mk ?_ ?_|refine br_d (fun _=>?_) fun _=>?_|refine vM (fun _=>?_) fun _=>?_)
  refine ⟨⟨⟨⟨p,bs,rs⟩,l⟩,⟨k,a,b,w⟩⟩,?_,⟨hI,hO,ha⟩,?_⟩
  ·exact wq
  dsimp only
  generalize (doD ⟨⟨p,bs,rs⟩,l⟩ ⟨k,a,b,w⟩).isSome=ok at h ⊢
  generalize (doD ⟨⟨p,bs,rs⟩,l⟩ ⟨k,a,b,w⟩).getD ⟨⟨p,bs,rs⟩,l⟩=e at h ⊢
  obtain ⟨⟨ep,eb,er⟩,el⟩:=e
  dsimp only [enDe,deC]
  repeat' (first|refine vz ?_|(conv=>whnf); first|with_reducible first|refine Sp.mk ?_ ?_|refine br_d (fun _=>?_) fun _=>?_|refine vM (fun _=>?_) fun _=>?_)
  refine ⟨_,?_,h⟩
  repeat' ((conv=>whnf); first|with_reducible exact True.intro|exact vW|with_reducible refine And.intro ?_ ?_)
 ·rw [if_neg hO,decide_eq_false hO,Bool.false_and] at h
  repeat' (first|refine vz ?_|(conv=>whnf); first|with_reducible first|refine Sp.mk ?_ ?_|refine br_d (fun _=>?_) fun _=>?_|refine vM (fun _=>?_) fun _=>?_)
  refine ⟨_,?_,h⟩
  repeat' ((conv=>whnf); first|with_reducible exact True.intro|exact vW|with_reducible refine And.intro ?_ ?_)
structure Rn where
 d:Desk
 l:List Dd
structure Ri where
 i:Nat
 e:Desk
 n:Nat
def rnPre (x:Rn):Prop:=deskOk x.d∧(∀ a∈x.l,dedI a)∧x.l.length≤1048576
def C257:List AV→(AV→Prop)→Prop:=con (X:=Rn) (fun x=>[enDe x.d,slD x.l]) rnPre fun x K=>K (.tup [enDe (runD x.d x.l).1,.int .i64 ((runD x.d x.l).2:Nat)])
theorem F257:FF 133 C257:=by
 refine fitXE [(63,C183)] (by simp only [List.mem_cons,List.not_mem_nil,or_false]; rintro _ rfl; exact F183) [(44,C198)] (by simp only [List.mem_cons,List.not_mem_nil,or_false]; rintro _ rfl; exact F198) Tryz.f133 ⟨rfl,by decide +kernel,by decide +kernel⟩ (fun _ _ _ hk h=>hk _ h) ?_
 rintro ⟨⟨⟨p,bs,rs⟩,past⟩,l⟩ K ⟨hO,hl,hll⟩ h
 refine ⟨Nat.le_of_ble_eq_true rfl,?_⟩
 dsimp only at hO hl hll h
 have hs:=deskOk_short hO
 dsimp only [enDe,deC] at h ⊢
 repeat' (first|refine vz ?_|(conv=>whnf); first|with_reducible first|refine Sp.mk ?_ ?_|refine br_d (fun _=>?_) fun _=>?_|refine vM (fun _=>?_) fun _=>?_)
 refine ⟨_,_,[],[],rfl,?_,?_,⟨⟨p,bs,rs⟩,past⟩,rfl,rfl,⟨hs⟩,?_⟩
 ·exact wq
 ·exact wq
 dsimp only [deG,psO]
 repeat' (first|refine vz ?_|(conv=>whnf); first|with_reducible first|refine Sp.mk ?_ ?_|refine br_d (fun _=>?_) fun _=>?_|refine vM (fun _=>?_) fun _=>?_)
 refine Lp.mk ⟨Ri,fun x=>[(1,slD l),(4,.ptr 0 0),(6,.ptr 1 0),(7,.int .i64 x.n),(8,.int .i64 x.i)],fun x=>[.box [.int .i64 0,.nils,.nils,.nils],.box [.int .i64 x.e.now.p,slI x.e.now.bs,slS x.e.now.rules,slP x.e.past]],fun x=>x.i≤l.length∧runD ⟨⟨p,bs,rs⟩,past⟩ (l.take x.i)=(x.e,x.n),fun x=>l.length-x.i,⟨⟨0,⟨⟨p,bs,rs⟩,past⟩,0⟩,⟨Nat.zero_le _,rfl⟩,?_⟩,?_⟩
 ·first|(refine ⟨⟨[some 1,some 3],[2],rfl,rfl,?_,?_⟩⟩ <;> (repeat' ((conv=>whnf); first|with_reducible exact True.intro|exact vW|with_reducible refine And.intro ?_ ?_|exact Chk.mk ⟨rfl,by dsimp only; omega,fun i _=>by dsimp only; (try rw [Nat.zero_add]); try rfl⟩)) <;> fail)|(refine ⟨⟨[some 1,some 2],[3],rfl,rfl,?_,?_⟩⟩ <;> (repeat' ((conv=>whnf); first|with_reducible exact True.intro|exact vW|with_reducible refine And.intro ?_ ?_|exact Chk.mk ⟨rfl,by dsimp only; omega,fun i _=>by dsimp only; (try rw [Nat.zero_add]); try rfl⟩)) <;> fail)
 rintro ⟨i,⟨⟨ep,eb,er⟩,el⟩,n⟩ ⟨i1,i2⟩
 dsimp only at i1 i2 ⊢
 have hOe:deskOk ⟨⟨ep,eb,er⟩,el⟩:=by have:=runD_ok hO (l.take i); rw [i2] at this; exact this
 have hn:=runD_le ⟨⟨p,bs,rs⟩,past⟩ (l.take i)
 rw [i2,List.length_take] at hn
 dsimp only at hn
 by_cases hi:i<l.length
 ·have hst:=take_step hi
  have ha:=hl _ (getD_mem' (d:=default) hi)
  generalize hA:l.getD i default=A at ha hst
  have hA':l.getD (i:Int).toNat default=A:=hA
  repeat' (first|refine vz ?_|(conv=>whnf); first|with_reducible first|refine Sp.mk ?_ ?_|refine br_d (fun _=>?_) fun _=>?_|refine vM (fun _=>?_) fun _=>?_)
  refine Dr.mk ⟨(.rd 0 (.rd 1 (.rd 2 (.rd 3 (.rd 4 (.ef 5 (.rd 6 (.rd 7 (.rd 8 (.ef 9 (.ef 10 (.rd 11 .dn) .no) .no)))) (.ef 9 (.ef 5 (.rd 6 (.rd 7 (.rd 8 (.ef 10 (.rd 11 .dn) .no)))) .no) .no))))))),by decide +kernel,?_⟩
  repeat' (first|refine vz ?_|(conv=>whnf); first|with_reducible first|refine Sp.mk ?_ ?_|refine br_d (fun _=>?_) fun _=>?_|refine vM (fun _=>?_) fun _=>?_)
  all_goals
   refine ⟨⟨⟨⟨ep,eb,er⟩,el⟩,A⟩,?_,⟨deskOk_I hOe,ha⟩,?_⟩
   ·repeat' ((conv=>whnf); first|with_reducible exact True.intro|exact vW|with_reducible refine And.intro ?_ ?_)
    all_goals first|exact Chk.mk (by rw [hA'])
   dsimp only
   cases hd:doD ⟨⟨ep,eb,er⟩,el⟩ A with
   |none =>
    have hr:runD ⟨⟨p,bs,rs⟩,past⟩ (l.take (i+1))=(⟨⟨ep,eb,er⟩,el⟩,n):=by rw [hst,runD_none (by rw [i2]; exact hd),i2]
    rw [afterD_none hOe hd,canD_none hd]
    dsimp only [enDe,deC]
    repeat' (first|refine vz ?_|(conv=>whnf); first|with_reducible first|refine Sp.mk ?_ ?_|refine br_d (fun _=>?_) fun _=>?_|refine vM (fun _=>?_) fun _=>?_)
    refine ⟨⟨i+1,⟨⟨ep,eb,er⟩,el⟩,n⟩,⟨by dsimp only; omega,hr⟩,by dsimp only; omega,?_⟩
    first|(refine ⟨⟨[some 0,some 1],[],rfl,rfl,?_,?_⟩⟩ <;> (repeat' ((conv=>whnf); first|with_reducible exact True.intro|exact vW|with_reducible refine And.intro ?_ ?_)) <;> fail)
   |some e =>
    have hr:runD ⟨⟨p,bs,rs⟩,past⟩ (l.take (i+1))=(e,n+1):=by rw [hst,runD_some (by rw [i2]; exact hd),i2]
    rw [afterD_some hOe hd,canD_some hOe hd]
    obtain ⟨⟨fp,fb,fr⟩,fl⟩:=e
    dsimp only [enDe,deC]
    repeat' (first|refine vz ?_|(conv=>whnf); first|with_reducible first|refine Sp.mk ?_ ?_|refine br_d (fun _=>?_) fun _=>?_|refine vM (fun _=>?_) fun _=>?_)
    refine ⟨⟨i+1,⟨⟨fp,fb,fr⟩,fl⟩,n+1⟩,⟨by dsimp only; omega,hr⟩,by dsimp only; omega,?_⟩
    first|(refine ⟨⟨[some 0,some 1],[],rfl,rfl,?_,?_⟩⟩ <;> (repeat' ((conv=>whnf); first|with_reducible exact True.intro|exact vW|with_reducible refine And.intro ?_ ?_)) <;> fail)
 ·obtain rfl:i=l.length:=by omega
  rw [List.take_length] at i2
  rw [i2] at h
  repeat' (first|refine vz ?_|(conv=>whnf); first|with_reducible first|refine Sp.mk ?_ ?_|refine br_d (fun _=>?_) fun _=>?_|refine vM (fun _=>?_) fun _=>?_)
  refine ⟨_,?_,h⟩
  repeat' ((conv=>whnf); first|with_reducible exact True.intro|exact vW|with_reducible refine And.intro ?_ ?_)
def C256:=C257
theorem F256:FF 62 C256:=by
 refine fitXE [(57,C254)] (by simp only [List.mem_cons,List.not_mem_nil,or_false]; rintro _ rfl; exact F254) [(42,C261)] (by simp only [List.mem_cons,List.not_mem_nil,or_false]; rintro _ rfl; exact F261) Tryz.f62 ⟨rfl,by decide +kernel,by decide +kernel⟩ (fun _ _ _ hk h=>hk _ h) ?_
 rintro ⟨⟨⟨p,bs,rs⟩,past⟩,l⟩ K ⟨hO,hl,hll⟩ h
 refine ⟨Nat.le_of_ble_eq_true rfl,?_⟩
 dsimp only at hO hl hll h
 have hs:=deskOk_short hO
 dsimp only [enDe,deC] at h ⊢
 repeat' (first|refine vz ?_|(conv=>whnf); first|with_reducible first|refine Sp.mk ?_ ?_|refine br_d (fun _=>?_) fun _=>?_|refine vM (fun _=>?_) fun _=>?_)
 refine ⟨_,_,[],[],rfl,?_,?_,⟨⟨p,bs,rs⟩,past⟩,rfl,rfl,⟨hs⟩,?_⟩
 ·exact wq
 ·exact wq
 dsimp only [deG,psO]
 repeat' (first|refine vz ?_|(conv=>whnf); first|with_reducible first|refine Sp.mk ?_ ?_|refine br_d (fun _=>?_) fun _=>?_|refine vM (fun _=>?_) fun _=>?_)
 refine Lp.mk ⟨Ri,fun x=>[(2,.ptr 1 0),(4,.ptr 0 0),(6,.int .i64 x.n),(13,slD l),(14,.int .i64 l.length),(15,.int .i64 x.i)],fun x=>[.box [.int .i64 0,.nils,.nils,.nils],.box [.int .i64 x.e.now.p,slI x.e.now.bs,slS x.e.now.rules,slP x.e.past]],fun x=>x.i≤l.length∧runD ⟨⟨p,bs,rs⟩,past⟩ (l.take x.i)=(x.e,x.n),fun x=>l.length-x.i,⟨⟨0,⟨⟨p,bs,rs⟩,past⟩,0⟩,⟨Nat.zero_le _,rfl⟩,?_⟩,?_⟩
 ·first|(refine ⟨⟨[some 1,some 0],[2],rfl,rfl,?_,?_⟩⟩ <;> (repeat' ((conv=>whnf); first|with_reducible exact True.intro|exact vW|with_reducible refine And.intro ?_ ?_|exact Chk.mk ⟨rfl,by dsimp only; omega,fun i _=>by dsimp only; (try rw [Nat.zero_add]); try rfl⟩)) <;> fail)
 rintro ⟨i,⟨⟨ep,eb,er⟩,el⟩,n⟩ ⟨i1,i2⟩
 dsimp only at i1 i2 ⊢
 have hOe:deskOk ⟨⟨ep,eb,er⟩,el⟩:=by have:=runD_ok hO (l.take i); rw [i2] at this; exact this
 have hn:=runD_le ⟨⟨p,bs,rs⟩,past⟩ (l.take i)
 rw [i2,List.length_take] at hn
 dsimp only at hn
 by_cases hi:i<l.length
 ·have hst:=take_step hi
  have ha:=hl _ (getD_mem' (d:=default) hi)
  generalize hA:l.getD i default=A at ha hst
  have hA':l.getD (i:Int).toNat default=A:=hA
  repeat' (first|refine vz ?_|(conv=>whnf); first|with_reducible first|refine Sp.mk ?_ ?_|refine br_d (fun _=>?_) fun _=>?_|refine vM (fun _=>?_) fun _=>?_)
  refine ⟨⟨⟨⟨ep,eb,er⟩,el⟩,A⟩,?_,⟨deskOk_I hOe,hOe,ha⟩,?_⟩
  ·repeat' ((conv=>whnf); first|with_reducible exact True.intro|exact vW|with_reducible refine And.intro ?_ ?_)
   all_goals first|exact Chk.mk (by rw [hA'])
  dsimp only
  cases hd:doD ⟨⟨ep,eb,er⟩,el⟩ A with
  |none =>
   have hr:runD ⟨⟨p,bs,rs⟩,past⟩ (l.take (i+1))=(⟨⟨ep,eb,er⟩,el⟩,n):=by rw [hst,runD_none (by rw [i2]; exact hd),i2]
   dsimp only [enDe,deC,Option.getD_none,Option.isSome_none]
   repeat' (first|refine vz ?_|(conv=>whnf); first|with_reducible first|refine Sp.mk ?_ ?_|refine br_d (fun _=>?_) fun _=>?_|refine vM (fun _=>?_) fun _=>?_)
   refine ⟨⟨i+1,⟨⟨ep,eb,er⟩,el⟩,n⟩,⟨by dsimp only; omega,hr⟩,by dsimp only; omega,?_⟩
   first|(refine ⟨⟨[some 0,some 1],[],rfl,rfl,?_,?_⟩⟩ <;> (repeat' ((conv=>whnf); first|with_reducible exact True.intro|exact vW|with_reducible refine And.intro ?_ ?_)) <;> fail)
  |some e =>
   have hr:runD ⟨⟨p,bs,rs⟩,past⟩ (l.take (i+1))=(e,n+1):=by rw [hst,runD_some (by rw [i2]; exact hd),i2]
   obtain ⟨⟨fp,fb,fr⟩,fl⟩:=e
   dsimp only [enDe,deC,Option.getD_some,Option.isSome_some]
   repeat' (first|refine vz ?_|(conv=>whnf); first|with_reducible first|refine Sp.mk ?_ ?_|refine br_d (fun _=>?_) fun _=>?_|refine vM (fun _=>?_) fun _=>?_)
   refine ⟨⟨i+1,⟨⟨fp,fb,fr⟩,fl⟩,n+1⟩,⟨by dsimp only; omega,hr⟩,by dsimp only; omega,?_⟩
   first|(refine ⟨⟨[some 0,some 1],[],rfl,rfl,?_,?_⟩⟩ <;> (repeat' ((conv=>whnf); first|with_reducible exact True.intro|exact vW|with_reducible refine And.intro ?_ ?_)) <;> fail)
 ·obtain rfl:i=l.length:=by omega
  rw [List.take_length] at i2
  rw [i2] at h
  repeat' (first|refine vz ?_|(conv=>whnf); first|with_reducible first|refine Sp.mk ?_ ?_|refine br_d (fun _=>?_) fun _=>?_|refine vM (fun _=>?_) fun _=>?_)
  refine ⟨_,?_,h⟩
  repeat' ((conv=>whnf); first|with_reducible exact True.intro|exact vW|with_reducible refine And.intro ?_ ?_)
open Classical in
noncomputable def runX (d:Desk) (l:List Dd):Desk × Nat:=if deskOk d∧l.length≤40 then runD d l else (default,0)
def C242:List AV→(AV→Prop)→Prop:=con (X:=Rn) (fun x=>[enDe x.d,slD x.l]) (fun x=>deskI x.d∧(∀ a∈x.l,dedI a)∧x.l.length≤1048576) fun x K=>K (.tup [enDe (runX x.d x.l).1,.int .i64 ((runX x.d x.l).2:Nat)])
theorem F242:FF 31 C242:=by
 refine fitXE [(41,C159),(62,C256)] (by simp only [List.mem_cons,List.not_mem_nil,or_false]; rintro _ (rfl|rfl) <;> first|exact F159|exact F256) [] (by simp) Tryz.f31 ⟨rfl,by decide +kernel,by decide +kernel⟩ (by intro x K K2 hk h; (try dsimp only at h ⊢); intros; apply hk; first|exact h|(apply h <;> assumption)) ?_
 rintro ⟨⟨⟨p,bs,rs⟩,past⟩,l⟩ K ⟨hI,hl,hll⟩ h
 refine ⟨Nat.le_of_ble_eq_true rfl,?_⟩
 dsimp only at hI hl hll h
 unfold runX at h
 dsimp only [enDe,deC] at h ⊢
 repeat' (first|refine vz ?_|(conv=>whnf); first|with_reducible first|refine Sp.mk ?_ ?_|refine br_d (fun _=>?_) fun _=>?_|refine vM (fun _=>?_) fun _=>?_)
 refine ⟨⟨⟨p,bs,rs⟩,past⟩,?_,⟨hI⟩,?_⟩
 ·exact wq
 by_cases hO:deskOk ⟨⟨p,bs,rs⟩,past⟩
 ·by_cases h40:l.length≤40
  ·rw [if_pos ⟨hO,h40⟩] at h
   repeat' (first|refine vz ?_|(conv=>whnf); first|with_reducible first|refine Sp.mk ?_ ?_|refine br_d (fun _=>?_) fun _=>?_|refine vM (fun _=>?_) fun _=>?_)
   refine ⟨⟨⟨⟨p,bs,rs⟩,past⟩,l⟩,?_,⟨hO,hl,hll⟩,?_⟩
   ·exact wq
   dsimp only
   generalize runD ⟨⟨p,bs,rs⟩,past⟩ l=r at h ⊢
   obtain ⟨⟨⟨ep,eb,er⟩,el⟩,n⟩:=r
   dsimp only [enDe,deC]
   repeat' (first|refine vz ?_|(conv=>whnf); first|with_reducible first|refine Sp.mk ?_ ?_|refine br_d (fun _=>?_) fun _=>?_|refine vM (fun _=>?_) fun _=>?_)
   refine ⟨_,?_,h⟩
   repeat' ((conv=>whnf); first|with_reducible exact True.intro|exact vW|with_reducible refine And.intro ?_ ?_)
  ·rw [if_neg fun q=>h40 q.2] at h
   repeat' (first|refine vz ?_|(conv=>whnf); first|with_reducible first|refine Sp.mk ?_ ?_|refine br_d (fun _=>?_) fun _=>?_|refine vM (fun _=>?_) fun _=>?_)
   refine ⟨_,?_,h⟩
   repeat' ((conv=>whnf); first|with_reducible exact True.intro|exact vW|with_reducible refine And.intro ?_ ?_)
 ·rw [if_neg fun q=>hO q.1] at h
  repeat' (first|refine vz ?_|(conv=>whnf); first|with_reducible first|refine Sp.mk ?_ ?_|refine br_d (fun _=>?_) fun _=>?_|refine vM (fun _=>?_) fun _=>?_)
  refine ⟨_,?_,h⟩
  repeat' ((conv=>whnf); first|with_reducible exact True.intro|exact vW|with_reducible refine And.intro ?_ ?_)
end Go.Proofs.YtapeebjjljohdaaGreatDoor.Vc
end
section
/- Part QN: a line to a desk, by both sides. -/
namespace Go.Proofs.YtapeebjjljohdaaGreatDoor.Vc
open Go.Proofs
set_option maxRecDepth 100000
set_option maxHeartbeats 4000000
structure Ds where
 d:Desk
 s:ByteArray
theorem okDd_I {s:ByteArray} {a:Dd} (h:isDd s a) (hs:s.size≤1048576):dedI a:=by
 have ho:=h.1
 have h1:=ho.a
 have h2:=ho.b
 have h3:=words_le ho
 rw [h.2] at h3
 refine ⟨?_,?_,?_,by omega⟩
 ·unfold i64r
  rcases ho.k with q|q|q|q|q <;> omega
 ·unfold i64r; omega
 ·unfold i64r; omega
def C312:List AV→(AV→Prop)→Prop:=con (X:=Ds) (fun x=>[enDe x.d,.str x.s]) (fun x=>deskOk x.d∧x.s.size≤1048576) fun x K=>K (.tup [enDe (lineD x.d x.s).1,.str (lineD x.d x.s).2])
theorem F312:FF 43 C312:=by
 refine fitXE [(78,C258),(57,C254),(79,C316)] (by simp only [List.mem_cons,List.not_mem_nil,or_false]; rintro _ (rfl|rfl|rfl) <;> first|exact F258|exact F254|exact F316) [(42,C261)] (by simp only [List.mem_cons,List.not_mem_nil,or_false]; rintro _ rfl <;> first|exact F261) Tryz.f43 ⟨rfl,by decide +kernel,by decide +kernel⟩ (by intro x K K2 hk h; (try dsimp only at h ⊢); intros; apply hk; first|exact h|(apply h <;> assumption)) ?_
 rintro ⟨⟨⟨p,bs,rs⟩,l⟩,s⟩ K ⟨hO,hs⟩ h
 refine ⟨Nat.le_of_ble_eq_true rfl,?_⟩
 dsimp only at hO hs h
 have hI:=deskOk_I hO
 have hsh:=deskOk_short hO
 dsimp only [enDe,deC] at ⊢
 repeat' (first|refine vz ?_|(conv=>whnf); first|with_reducible first|refine Sp.mk ?_ ?_|refine br_d (fun _=>?_) fun _=>?_|refine vM (fun _=>?_) fun _=>?_)
 refine ⟨s,?_,⟨hs⟩,?_⟩
 ·exact wq
 refine ⟨fun a ha=>?_,fun hno=>?_⟩
 ·rw [lineD_deed ha] at h
  have hda:=okDd_I ha hs
  obtain ⟨k,x,y,w⟩:=a
  dsimp only [ded,encD] at h ⊢
  repeat' (first|refine vz ?_|(conv=>whnf); first|with_reducible first|refine Sp.mk ?_ ?_|refine br_d (fun _=>?_) fun _=>?_|refine vM (fun _=>?_) fun _=>?_)
  refine ⟨⟨⟨⟨p,bs,rs⟩,l⟩,⟨k,x,y,w⟩⟩,?_,⟨hI,hO,hda⟩,?_⟩
  ·exact wq
  dsimp only
  generalize (doD ⟨⟨p,bs,rs⟩,l⟩ ⟨k,x,y,w⟩).isSome=ok at h ⊢
  generalize (doD ⟨⟨p,bs,rs⟩,l⟩ ⟨k,x,y,w⟩).getD ⟨⟨p,bs,rs⟩,l⟩=e at h ⊢
  obtain ⟨⟨ep,eb,er⟩,el⟩:=e
  dsimp only [enDe,deC] at h ⊢
  cases ok
  ·rw [if_neg Bool.false_ne_true] at h
   repeat' (first|refine vz ?_|(conv=>whnf); first|with_reducible first|refine Sp.mk ?_ ?_|refine br_d (fun _=>?_) fun _=>?_|refine vM (fun _=>?_) fun _=>?_)
   refine ⟨_,?_,h⟩
   repeat' ((conv=>whnf); first|with_reducible exact True.intro|exact vW|with_reducible refine And.intro ?_ ?_)
  ·rw [if_pos rfl] at h
   repeat' (first|refine vz ?_|(conv=>whnf); first|with_reducible first|refine Sp.mk ?_ ?_|refine br_d (fun _=>?_) fun _=>?_|refine vM (fun _=>?_) fun _=>?_)
   refine ⟨_,?_,h⟩
   repeat' ((conv=>whnf); first|with_reducible exact True.intro|exact vW|with_reducible refine And.intro ?_ ?_)
 ·rw [lineD_ask hno] at h
  dsimp only [enDe,deC,ded,encD] at h ⊢
  repeat' (first|refine vz ?_|(conv=>whnf); first|with_reducible first|refine Sp.mk ?_ ?_|refine br_d (fun _=>?_) fun _=>?_|refine vM (fun _=>?_) fun _=>?_)
  refine Dr.mk ⟨(.rd 0 (.rd 2 (.rd 3 (.rd 4 (.ef 1 (.ef 5 (.ef 6 (.rd 7 .dn) .no) .no) .no))))),by decide +kernel,?_⟩
  repeat' (first|refine vz ?_|(conv=>whnf); first|with_reducible first|refine Sp.mk ?_ ?_|refine br_d (fun _=>?_) fun _=>?_|refine vM (fun _=>?_) fun _=>?_)
  refine ⟨_,_,[],[],rfl,?_,?_,⟨⟨p,bs,rs⟩,l⟩,rfl,rfl,⟨hsh⟩,?_⟩
  ·exact wq
  ·exact wq
  dsimp only [deG,psO]
  repeat' (first|refine vz ?_|(conv=>whnf); first|with_reducible first|refine Sp.mk ?_ ?_|refine br_d (fun _=>?_) fun _=>?_|refine vM (fun _=>?_) fun _=>?_)
  refine ⟨⟨⟨p,bs,rs⟩,s⟩,?_,⟨⟨hI.1,hO.1⟩,hs⟩,?_⟩
  ·exact wq
  dsimp only
  repeat' (first|refine vz ?_|(conv=>whnf); first|with_reducible first|refine Sp.mk ?_ ?_|refine br_d (fun _=>?_) fun _=>?_|refine vM (fun _=>?_) fun _=>?_)
  refine ⟨_,?_,h⟩
  repeat' ((conv=>whnf); first|with_reducible exact True.intro|exact vW|with_reducible refine And.intro ?_ ?_)
  all_goals exact Chk.mk ⟨rfl,fun i _=>by dsimp only; (try rw [Nat.zero_add]); try rfl⟩
def C311:List AV→(AV→Prop)→Prop:=con (X:=Ds) (fun x=>[enDe x.d,.str x.s]) (fun x=>deskI x.d∧x.s.size≤1048576) fun x K=>(deskOk x.d→K (.tup [enDe (lineD x.d x.s).1,.str (lineD x.d x.s).2]))∧(¬ deskOk x.d→K (.tup [enDe default,.str ⟨#[]⟩]))
theorem F311:FF 15 C311:=by
 refine fitXE [(41,C159),(43,C312)] (by simp only [List.mem_cons,List.not_mem_nil,or_false]; rintro _ (rfl|rfl) <;> first|exact F159|exact F312) [] (by simp) Tryz.f15 ⟨rfl,by decide +kernel,by decide +kernel⟩ (fun _ _ _ hk h=>⟨fun q=>hk _ (h.1 q),fun q=>hk _ (h.2 q)⟩) ?_
 rintro ⟨⟨⟨p,bs,rs⟩,l⟩,s⟩ K ⟨hI,hs⟩ ⟨h1,h2⟩
 refine ⟨Nat.le_of_ble_eq_true rfl,?_⟩
 dsimp only at hI hs h1 h2
 dsimp only [enDe,deC]
 repeat' (first|refine vz ?_|(conv=>whnf); first|with_reducible first|refine Sp.mk ?_ ?_|refine br_d (fun _=>?_) fun _=>?_|refine vM (fun _=>?_) fun _=>?_)
 refine ⟨⟨⟨p,bs,rs⟩,l⟩,?_,⟨hI⟩,?_⟩
 ·exact wq
 by_cases hO:deskOk ⟨⟨p,bs,rs⟩,l⟩
 ·have h:=h1 hO
  dsimp only
  rw [decide_eq_true hO]
  repeat' (first|refine vz ?_|(conv=>whnf); first|with_reducible first|refine Sp.mk ?_ ?_|refine br_d (fun _=>?_) fun _=>?_|refine vM (fun _=>?_) fun _=>?_)
  refine ⟨⟨⟨⟨p,bs,rs⟩,l⟩,s⟩,?_,⟨hO,hs⟩,?_⟩
  ·exact wq
  dsimp only
  generalize lineD ⟨⟨p,bs,rs⟩,l⟩ s=r at h ⊢
  obtain ⟨⟨⟨ep,eb,er⟩,el⟩,w⟩:=r
  dsimp only [enDe,deC] at h ⊢
  repeat' (first|refine vz ?_|(conv=>whnf); first|with_reducible first|refine Sp.mk ?_ ?_|refine br_d (fun _=>?_) fun _=>?_|refine vM (fun _=>?_) fun _=>?_)
  refine ⟨_,?_,h⟩
  repeat' ((conv=>whnf); first|with_reducible exact True.intro|exact vW|with_reducible refine And.intro ?_ ?_)
 ·have h:=h2 hO
  dsimp only
  rw [decide_eq_false hO]
  repeat' (first|refine vz ?_|(conv=>whnf); first|with_reducible first|refine Sp.mk ?_ ?_|refine br_d (fun _=>?_) fun _=>?_|refine vM (fun _=>?_) fun _=>?_)
  refine ⟨_,?_,h⟩
  repeat' ((conv=>whnf); first|with_reducible exact True.intro|exact vW|with_reducible refine And.intro ?_ ?_)
def C313:=C311
theorem ptext_ok {x:Place} (h:placeOk x):ptext x=plT x:=if_pos h
theorem F313:FF 34 C313:=by
 refine fitXE [(12,C139),(61,C244),(63,C183),(64,C142),(65,C215),(66,C216s),(67,C320),(68,C321)] (by simp only [List.mem_cons,List.not_mem_nil,or_false]; rintro _ (rfl|rfl|rfl|rfl|rfl|rfl|rfl|rfl) <;> first|exact F139|exact F244|exact F183|exact F142|exact F215|exact F216s|exact F320|exact F321) [(44,C198)] (by simp only [List.mem_cons,List.not_mem_nil,or_false]; rintro _ rfl; exact F198) Tryz.f34 ⟨rfl,by decide +kernel,by decide +kernel⟩ (fun _ _ _ hk h=>⟨fun q=>hk _ (h.1 q),fun q=>hk _ (h.2 q)⟩) ?_
 rintro ⟨⟨⟨p,bs,rs⟩,l⟩,s⟩ K ⟨hI,hs⟩ ⟨h1,h2⟩
 refine ⟨Nat.le_of_ble_eq_true rfl,?_⟩
 dsimp only at hI hs h1 h2
 dsimp only [enDe,deC]
 repeat' (first|refine vz ?_|(conv=>whnf); first|with_reducible first|refine Sp.mk ?_ ?_|refine br_d (fun _=>?_) fun _=>?_|refine vM (fun _=>?_) fun _=>?_)
 refine ⟨⟨⟨p,bs,rs⟩,l⟩,?_,⟨hI⟩,?_⟩
 ·exact wq
 by_cases hO:deskOk ⟨⟨p,bs,rs⟩,l⟩
 ·have h:=h1 hO
  clear h1 h2
  have hsh:=deskOk_short hO
  dsimp only
  rw [decide_eq_true hO]
  repeat' (first|refine vz ?_|(conv=>whnf); first|with_reducible first|refine Sp.mk ?_ ?_|refine br_d (fun _=>?_) fun _=>?_|refine vM (fun _=>?_) fun _=>?_)
  refine ⟨_,_,[],[],rfl,?_,?_,⟨⟨p,bs,rs⟩,l⟩,rfl,rfl,⟨hsh⟩,?_⟩
  ·exact wq
  ·exact wq
  dsimp only [deG,psO]
  repeat' (first|refine vz ?_|(conv=>whnf); first|with_reducible first|refine Sp.mk ?_ ?_|refine br_d (fun _=>?_) fun _=>?_|refine vM (fun _=>?_) fun _=>?_)
  refine ⟨s,?_,⟨hs⟩,?_⟩
  ·exact wq
  refine ⟨fun a ha=>?_,fun hno=>?_⟩
  ·rw [lineD_deed ha] at h
   have hda:=okDd_I ha hs
   obtain ⟨k,x,y,w⟩:=a
   dsimp only [ded,encD] at h ⊢
   repeat' (first|refine vz ?_|(conv=>whnf); first|with_reducible first|refine Sp.mk ?_ ?_|refine br_d (fun _=>?_) fun _=>?_|refine vM (fun _=>?_) fun _=>?_)
   refine ⟨⟨⟨⟨p,bs,rs⟩,l⟩,⟨k,x,y,w⟩⟩,?_,⟨hI,hda⟩,?_⟩
   ·exact wq
   unfold afterD canD
   dsimp only
   rw [if_pos hO,decide_eq_true hO,Bool.true_and]
   generalize (doD ⟨⟨p,bs,rs⟩,l⟩ ⟨k,x,y,w⟩).isSome=ok at h ⊢
   generalize (doD ⟨⟨p,bs,rs⟩,l⟩ ⟨k,x,y,w⟩).getD ⟨⟨p,bs,rs⟩,l⟩=e at h ⊢
   obtain ⟨⟨ep,eb,er⟩,el⟩:=e
   dsimp only [enDe,deC] at h ⊢
   cases ok
   ·rw [if_neg Bool.false_ne_true] at h
    repeat' (first|refine vz ?_|(conv=>whnf); first|with_reducible first|refine Sp.mk ?_ ?_|refine br_d (fun _=>?_) fun _=>?_|refine vM (fun _=>?_) fun _=>?_)
    refine ⟨_,?_,h⟩
    repeat' ((conv=>whnf); first|with_reducible exact True.intro|exact vW|with_reducible refine And.intro ?_ ?_)
   ·rw [if_pos rfl] at h
    repeat' (first|refine vz ?_|(conv=>whnf); first|with_reducible first|refine Sp.mk ?_ ?_|refine br_d (fun _=>?_) fun _=>?_|refine vM (fun _=>?_) fun _=>?_)
    refine ⟨_,?_,h⟩
    repeat' ((conv=>whnf); first|with_reducible exact True.intro|exact vW|with_reducible refine And.intro ?_ ?_)
  ·rw [lineD_ask hno] at h
   unfold askD at h
   dsimp only [enDe,deC,ded,encD] at h ⊢
   repeat' (first|refine vz ?_|(conv=>whnf); first|with_reducible first|refine Sp.mk ?_ ?_|refine br_d (fun _=>?_) fun _=>?_|refine vM (fun _=>?_) fun _=>?_)
   ·rename_i q
    rw [if_pos q] at h
    refine Dr.mk ⟨(.rd 0 (.rd 1 (.rd 2 (.ef 3 (.ef 4 (.rd 5 .dn) .no) .no)))),by decide +kernel,?_⟩
    repeat' (first|refine vz ?_|(conv=>whnf); first|with_reducible first|refine Sp.mk ?_ ?_|refine br_d (fun _=>?_) fun _=>?_|refine vM (fun _=>?_) fun _=>?_)
    refine ⟨⟨p,bs,rs⟩,?_,⟨hI.1⟩,?_⟩
    ·exact wq
    dsimp only
    rw [ptext_ok (x:=⟨p,bs,rs⟩) hO.1]
    repeat' (first|refine vz ?_|(conv=>whnf); first|with_reducible first|refine Sp.mk ?_ ?_|refine br_d (fun _=>?_) fun _=>?_|refine vM (fun _=>?_) fun _=>?_)
    refine ⟨_,?_,h⟩
    repeat' ((conv=>whnf); first|with_reducible exact True.intro|exact vW|with_reducible refine And.intro ?_ ?_)
    all_goals exact Chk.mk ⟨rfl,fun i _=>by dsimp only; (try rw [Nat.zero_add]); try rfl⟩
   ·rename_i q
    rw [if_neg q] at h
    refine ⟨(s,32),?_,⟨by dsimp only; omega⟩,?_⟩
    ·exact wq
    have hlm:∀ w∈cutB s 32,w.size≤s.size:=fun w hw=>cutB_mem (c:=32) hw
    have hcl:=cutB_len s 32
    dsimp only
    generalize cutB s 32=L at h hlm hcl ⊢
    unfold askL at h
    repeat' (first|refine vz ?_|(conv=>whnf); first|with_reducible first|refine Sp.mk ?_ ?_|refine br_d (fun _=>?_) fun _=>?_|refine vM (fun _=>?_) fun _=>?_)
    ·rename_i hl
     have hl2:L.length=2:=by omega
     have e1:=hlm _ (getD_mem' (l:=L) (i:=1) (d:=⟨#[]⟩) (by omega))
     refine ⟨L.getD 1 ⟨#[]⟩,?_,⟨by omega⟩,?_⟩
     ·exact wq
     repeat' (first|refine vz ?_|(conv=>whnf); first|with_reducible first|refine Sp.mk ?_ ?_|refine br_d (fun _=>?_) fun _=>?_|refine vM (fun _=>?_) fun _=>?_)
     ·rename_i hd
      rw [if_pos ⟨hl2,hd⟩] at h
      refine Dr.mk ⟨(.rd 0 (.rd 1 (.rd 2 (.rd 3 (.rd 4 (.rd 5 (.rd 6 (.rd 7 (.rd 8 (.ef 9 (.ef 10 (.ef 11 (.rd 12 .dn) .no) .no) .no)))))))))),by decide +kernel,?_⟩
      repeat' (first|refine vz ?_|(conv=>whnf); first|with_reducible first|refine Sp.mk ?_ ?_|refine br_d (fun _=>?_) fun _=>?_|refine vM (fun _=>?_) fun _=>?_)
      refine ⟨L.getD 1 ⟨#[]⟩,?_,⟨by omega⟩,?_⟩
      ·exact wq
      repeat' (first|refine vz ?_|(conv=>whnf); first|with_reducible first|refine Sp.mk ?_ ?_|refine br_d (fun _=>?_) fun _=>?_|refine vM (fun _=>?_) fun _=>?_)
      refine ⟨⟨⟨p,bs,rs⟩,L.getD 0 ⟨#[]⟩,digV (L.getD 1 ⟨#[]⟩)⟩,?_,⟨⟨hI.1,hO.1⟩,hd,(digV_lt _).2⟩,?_⟩
      ·exact wq
      dsimp only
      repeat' (first|refine vz ?_|(conv=>whnf); first|with_reducible first|refine Sp.mk ?_ ?_|refine br_d (fun _=>?_) fun _=>?_|refine vM (fun _=>?_) fun _=>?_)
      refine ⟨_,?_,h⟩
      repeat' ((conv=>whnf); first|with_reducible exact True.intro|exact vW|with_reducible refine And.intro ?_ ?_)
      all_goals exact Chk.mk ⟨rfl,fun i _=>by dsimp only; (try rw [Nat.zero_add]); try rfl⟩
     ·rename_i hd
      rw [if_neg (fun q=>hd q.2),if_neg (fun q=>by omega)] at h
      repeat' (first|refine vz ?_|(conv=>whnf); first|with_reducible first|refine Sp.mk ?_ ?_|refine br_d (fun _=>?_) fun _=>?_|refine vM (fun _=>?_) fun _=>?_)
      refine ⟨_,?_,h⟩
      repeat' ((conv=>whnf); first|with_reducible exact True.intro|exact vW|with_reducible refine And.intro ?_ ?_)
      all_goals exact Chk.mk ⟨rfl,fun i _=>by dsimp only; (try rw [Nat.zero_add]); try rfl⟩
    ·rename_i hl0 hl
     have hl2:L.length=3:=by omega
     rw [if_neg (fun q=>by omega)] at h
     have e1:=hlm _ (getD_mem' (l:=L) (i:=1) (d:=⟨#[]⟩) (by omega))
     have e2:=hlm _ (getD_mem' (l:=L) (i:=2) (d:=⟨#[]⟩) (by omega))
     refine ⟨L.getD 1 ⟨#[]⟩,?_,⟨by omega⟩,?_⟩
     ·exact wq
     repeat' (first|refine vz ?_|(conv=>whnf); first|with_reducible first|refine Sp.mk ?_ ?_|refine br_d (fun _=>?_) fun _=>?_|refine vM (fun _=>?_) fun _=>?_)
     ·rename_i hd
      refine ⟨L.getD 2 ⟨#[]⟩,?_,⟨by omega⟩,?_⟩
      ·exact wq
      repeat' (first|refine vz ?_|(conv=>whnf); first|with_reducible first|refine Sp.mk ?_ ?_|refine br_d (fun _=>?_) fun _=>?_|refine vM (fun _=>?_) fun _=>?_)
      ·rename_i hd2
       rw [if_pos ⟨hl2,hd,hd2⟩] at h
       refine Dr.mk ⟨(.rd 0 (.rd 1 (.rd 2 (.rd 3 (.rd 4 (.rd 5 (.rd 6 (.rd 7 (.rd 8 (.rd 10 (.rd 11 (.rd 12 (.ef 9 (.ef 13 (.ef 14 (.ef 15 (.rd 16 .dn) .no) .no) .no) .no))))))))))))),by decide +kernel,?_⟩
       repeat' (first|refine vz ?_|(conv=>whnf); first|with_reducible first|refine Sp.mk ?_ ?_|refine br_d (fun _=>?_) fun _=>?_|refine vM (fun _=>?_) fun _=>?_)
       refine ⟨L.getD 1 ⟨#[]⟩,?_,⟨by omega⟩,?_⟩
       ·exact wq
       repeat' (first|refine vz ?_|(conv=>whnf); first|with_reducible first|refine Sp.mk ?_ ?_|refine br_d (fun _=>?_) fun _=>?_|refine vM (fun _=>?_) fun _=>?_)
       refine ⟨L.getD 2 ⟨#[]⟩,?_,⟨by omega⟩,?_⟩
       ·exact wq
       repeat' (first|refine vz ?_|(conv=>whnf); first|with_reducible first|refine Sp.mk ?_ ?_|refine br_d (fun _=>?_) fun _=>?_|refine vM (fun _=>?_) fun _=>?_)
       refine ⟨⟨⟨p,bs,rs⟩,L.getD 0 ⟨#[]⟩,digV (L.getD 1 ⟨#[]⟩),digV (L.getD 2 ⟨#[]⟩)⟩,?_,⟨⟨⟨hI.1,hO.1⟩,hd,(digV_lt _).2⟩,hd2,(digV_lt _).2⟩,?_⟩
       ·exact wq
       dsimp only
       repeat' (first|refine vz ?_|(conv=>whnf); first|with_reducible first|refine Sp.mk ?_ ?_|refine br_d (fun _=>?_) fun _=>?_|refine vM (fun _=>?_) fun _=>?_)
       refine ⟨_,?_,h⟩
       repeat' ((conv=>whnf); first|with_reducible exact True.intro|exact vW|with_reducible refine And.intro ?_ ?_)
       all_goals exact Chk.mk ⟨rfl,fun i _=>by dsimp only; (try rw [Nat.zero_add]); try rfl⟩
      ·rename_i hd2
       rw [if_neg (fun q=>hd2 q.2.2)] at h
       repeat' (first|refine vz ?_|(conv=>whnf); first|with_reducible first|refine Sp.mk ?_ ?_|refine br_d (fun _=>?_) fun _=>?_|refine vM (fun _=>?_) fun _=>?_)
       refine ⟨_,?_,h⟩
       repeat' ((conv=>whnf); first|with_reducible exact True.intro|exact vW|with_reducible refine And.intro ?_ ?_)
       all_goals exact Chk.mk ⟨rfl,fun i _=>by dsimp only; (try rw [Nat.zero_add]); try rfl⟩
     ·rename_i hd
      rw [if_neg (fun q=>hd q.2.1)] at h
      repeat' (first|refine vz ?_|(conv=>whnf); first|with_reducible first|refine Sp.mk ?_ ?_|refine br_d (fun _=>?_) fun _=>?_|refine vM (fun _=>?_) fun _=>?_)
      refine ⟨_,?_,h⟩
      repeat' ((conv=>whnf); first|with_reducible exact True.intro|exact vW|with_reducible refine And.intro ?_ ?_)
      all_goals exact Chk.mk ⟨rfl,fun i _=>by dsimp only; (try rw [Nat.zero_add]); try rfl⟩
    ·rename_i hl0 hl
     rw [if_neg (fun q=>by omega),if_neg (fun q=>by omega)] at h
     repeat' (first|refine vz ?_|(conv=>whnf); first|with_reducible first|refine Sp.mk ?_ ?_|refine br_d (fun _=>?_) fun _=>?_|refine vM (fun _=>?_) fun _=>?_)
     refine ⟨_,?_,h⟩
     repeat' ((conv=>whnf); first|with_reducible exact True.intro|exact vW|with_reducible refine And.intro ?_ ?_)
     all_goals exact Chk.mk ⟨rfl,fun i _=>by dsimp only; (try rw [Nat.zero_add]); try rfl⟩
 ·have h:=h2 hO
  dsimp only
  rw [decide_eq_false hO]
  repeat' (first|refine vz ?_|(conv=>whnf); first|with_reducible first|refine Sp.mk ?_ ?_|refine br_d (fun _=>?_) fun _=>?_|refine vM (fun _=>?_) fun _=>?_)
  refine ⟨_,?_,h⟩
  repeat' ((conv=>whnf); first|with_reducible exact True.intro|exact vW|with_reducible refine And.intro ?_ ?_)
end Go.Proofs.YtapeebjjljohdaaGreatDoor.Vc
end
section
/- Part QO: lines to a desk, by both sides. -/
namespace Go.Proofs.YtapeebjjljohdaaGreatDoor.Vc
open Go.Proofs
set_option maxRecDepth 100000
set_option maxHeartbeats 4000000
structure Dls where
 d:Desk
 l:List ByteArray
open Classical in
noncomputable def sayX (d:Desk) (l:List ByteArray):Desk × List ByteArray:=if deskOk d∧l.length≤40 then sayD d l else (default,[])
theorem sayX_ok {d:Desk} {l:List ByteArray} (h:deskOk d) (g:l.length≤40):sayX d l=sayD d l:=if_pos ⟨h,g⟩
theorem sayX_no {d:Desk} {l:List ByteArray} (h:¬ (deskOk d∧l.length≤40)):sayX d l=(default,[]):=if_neg h
theorem sayD_len {d:Desk} (h:deskOk d) (l:List ByteArray):(sayD d l).2.length=l.length:=(sayD_ok h l).2.2
structure Rj where
 i:Nat
 e:Desk
 A:List ByteArray
def C314:List AV→(AV→Prop)→Prop:=con (X:=Dls) (fun x=>[enDe x.d,slS x.l]) (fun x=>deskI x.d∧(∀ s∈x.l,s.size≤1048576)∧x.l.length≤1048576) fun x K=>K (.tup [enDe (sayX x.d x.l).1,slS (sayX x.d x.l).2])
theorem F314:FF 8 C314:=by
 refine fitXE [(41,C159),(43,C312)] (by simp only [List.mem_cons,List.not_mem_nil,or_false]; rintro _ (rfl|rfl) <;> first|exact F159|exact F312) [(42,C261)] (by simp only [List.mem_cons,List.not_mem_nil,or_false]; rintro _ rfl; exact F261) Tryz.f8 ⟨rfl,by decide +kernel,by decide +kernel⟩ (fun _ _ _ hk h=>hk _ h) ?_
 rintro ⟨⟨⟨p,bs,rs⟩,past⟩,l⟩ K ⟨hI,hl,hll⟩ h
 refine ⟨Nat.le_of_ble_eq_true rfl,?_⟩
 dsimp only at hI hl hll h
 dsimp only [enDe,deC]
 repeat' (first|refine vz ?_|(conv=>whnf); first|with_reducible first|refine Sp.mk ?_ ?_|refine br_d (fun _=>?_) fun _=>?_|refine vM (fun _=>?_) fun _=>?_)
 refine ⟨⟨⟨p,bs,rs⟩,past⟩,?_,⟨hI⟩,?_⟩
 ·exact wq
 by_cases hO:deskOk ⟨⟨p,bs,rs⟩,past⟩
 ·dsimp only
  rw [decide_eq_true hO]
  by_cases h40:l.length≤40
  ·rw [sayX_ok hO h40] at h
   have hs:=deskOk_short hO
   repeat' (first|refine vz ?_|(conv=>whnf); first|with_reducible first|refine Sp.mk ?_ ?_|refine br_d (fun _=>?_) fun _=>?_|refine vM (fun _=>?_) fun _=>?_)
   refine ⟨_,_,[],[],rfl,?_,?_,⟨⟨p,bs,rs⟩,past⟩,rfl,rfl,⟨hs⟩,?_⟩
   ·exact wq
   ·exact wq
   dsimp only [deG,psO]
   repeat' (first|refine vz ?_|(conv=>whnf); first|with_reducible first|refine Sp.mk ?_ ?_|refine br_d (fun _=>?_) fun _=>?_|refine vM (fun _=>?_) fun _=>?_)
   refine Lp.mk ⟨Rj,fun x=>[(2,.ptr 0 0),(4,.ptr 1 0),(6,.row 2 1 0 x.A.length),(23,slS l),(24,.int .i64 l.length),(25,.int .i64 x.i)],fun x=>[.box [.int .i64 x.e.now.p,slI x.e.now.bs,slS x.e.now.rules,slP x.e.past],.box [.int .i64 0,.nils,.nils,.nils],.row 1 x.A.length fun i=>encS (x.A.getD i ⟨#[]⟩)],fun x=>x.i≤l.length∧sayD ⟨⟨p,bs,rs⟩,past⟩ (l.take x.i)=(x.e,x.A),fun x=>l.length-x.i,⟨⟨0,⟨⟨p,bs,rs⟩,past⟩,[]⟩,⟨Nat.zero_le _,rfl⟩,?_⟩,?_⟩
   ·first|(refine ⟨⟨[some 0,some 1,none],[2],rfl,rfl,?_,?_⟩⟩ <;> (repeat' ((conv=>whnf); first|with_reducible exact True.intro|exact vW|with_reducible refine And.intro ?_ ?_|exact Chk.mk ⟨rfl,by dsimp only; omega,fun i _=>by dsimp only; (try rw [Nat.zero_add]); try rfl⟩)) <;> fail)
   rintro ⟨i,⟨⟨ep,eb,er⟩,el⟩,A⟩ ⟨i1,i2⟩
   dsimp only at i1 i2 ⊢
   have hOe:deskOk ⟨⟨ep,eb,er⟩,el⟩:=by have:=(sayD_ok hO (l.take i)).1; rw [i2] at this; exact this
   have hn:=sayD_len hO (l.take i)
   rw [i2,List.length_take] at hn
   dsimp only at hn
   by_cases hi:i<l.length
   ·have hst:=sayD_take (d:=⟨⟨p,bs,rs⟩,past⟩) hi
    rw [i2] at hst
    unfold sayF at hst
    dsimp only at hst
    have hs1:=hl _ (getD_mem' (d:=⟨#[]⟩) hi)
    generalize hA:l.getD i ⟨#[]⟩=s at hs1 hst
    have hA':l.getD (i:Int).toNat ⟨#[]⟩=s:=hA
    repeat' (first|refine vz ?_|(conv=>whnf); first|with_reducible first|refine Sp.mk ?_ ?_|refine br_d (fun _=>?_) fun _=>?_|refine vM (fun _=>?_) fun _=>?_)
    refine ⟨⟨⟨⟨ep,eb,er⟩,el⟩,s⟩,?_,⟨hOe,hs1⟩,?_⟩
    ·repeat' ((conv=>whnf); first|with_reducible exact True.intro|exact vW|with_reducible refine And.intro ?_ ?_)
     all_goals first|exact Chk.mk (by rw [hA'])
    dsimp only
    generalize lineD ⟨⟨ep,eb,er⟩,el⟩ s=r at hst ⊢
    obtain ⟨⟨⟨fp,fb,fr⟩,fl⟩,w⟩:=r
    dsimp only [enDe,deC] at hst ⊢
    repeat' (first|refine vz ?_|(conv=>whnf); first|with_reducible first|refine Sp.mk ?_ ?_|refine br_d (fun _=>?_) fun _=>?_|refine vM (fun _=>?_) fun _=>?_)
    refine ⟨⟨i+1,⟨⟨fp,fb,fr⟩,fl⟩,A ++ [w]⟩,⟨by dsimp only; omega,hst⟩,by dsimp only; omega,?_⟩
    first|(refine ⟨⟨[some 0,some 1,some 5],[],rfl,rfl,?_,?_⟩⟩ <;> (repeat' ((conv=>whnf); first|with_reducible exact True.intro|exact vW|with_reducible refine And.intro ?_ ?_|exact Chk.mk ⟨rfl,by rw [List.length_append]; rfl⟩|exact Chk.mk (ext_push (enc:=encS) (d:=⟨#[]⟩) (l:=A) (x:=w) rfl))) <;> fail)|(refine ⟨⟨[some 0,some 1,some 4],[],rfl,rfl,?_,?_⟩⟩ <;> (repeat' ((conv=>whnf); first|with_reducible exact True.intro|exact vW|with_reducible refine And.intro ?_ ?_|exact Chk.mk ⟨rfl,by rw [List.length_append]; rfl⟩|exact Chk.mk (ext_push (enc:=encS) (d:=⟨#[]⟩) (l:=A) (x:=w) rfl))) <;> fail)
   ·obtain rfl:i=l.length:=by omega
    rw [List.take_length] at i2
    rw [i2] at h
    repeat' (first|refine vz ?_|(conv=>whnf); first|with_reducible first|refine Sp.mk ?_ ?_|refine br_d (fun _=>?_) fun _=>?_|refine vM (fun _=>?_) fun _=>?_)
    refine ⟨_,?_,h⟩
    repeat' ((conv=>whnf); first|with_reducible exact True.intro|exact vW|with_reducible refine And.intro ?_ ?_)
    all_goals exact Chk.mk ⟨rfl,fun i _=>by dsimp only; (try rw [Nat.zero_add]); try rfl⟩
  ·rw [sayX_no (fun q=>h40 q.2)] at h
   repeat' (first|refine vz ?_|(conv=>whnf); first|with_reducible first|refine Sp.mk ?_ ?_|refine br_d (fun _=>?_) fun _=>?_|refine vM (fun _=>?_) fun _=>?_)
   refine ⟨_,?_,h⟩
   repeat' ((conv=>whnf); first|with_reducible exact True.intro|exact vW|with_reducible refine And.intro ?_ ?_)
 ·dsimp only
  rw [decide_eq_false hO]
  rw [sayX_no (fun q=>hO q.1)] at h
  repeat' (first|refine vz ?_|(conv=>whnf); first|with_reducible first|refine Sp.mk ?_ ?_|refine br_d (fun _=>?_) fun _=>?_|refine vM (fun _=>?_) fun _=>?_)
  refine ⟨_,?_,h⟩
  repeat' ((conv=>whnf); first|with_reducible exact True.intro|exact vW|with_reducible refine And.intro ?_ ?_)
def C315:=C314
theorem F315:FF 9 C315:=by
 refine fitXE [(12,C139),(34,C313)] (by simp only [List.mem_cons,List.not_mem_nil,or_false]; rintro _ (rfl|rfl) <;> first|exact F139|exact F313) [(44,C198)] (by simp only [List.mem_cons,List.not_mem_nil,or_false]; rintro _ rfl; exact F198) Tryz.f9 ⟨rfl,by decide +kernel,by decide +kernel⟩ (fun _ _ _ hk h=>hk _ h) ?_
 rintro ⟨⟨⟨p,bs,rs⟩,past⟩,l⟩ K ⟨hI,hl,hll⟩ h
 refine ⟨Nat.le_of_ble_eq_true rfl,?_⟩
 dsimp only at hI hl hll h
 dsimp only [enDe,deC]
 repeat' (first|refine vz ?_|(conv=>whnf); first|with_reducible first|refine Sp.mk ?_ ?_|refine br_d (fun _=>?_) fun _=>?_|refine vM (fun _=>?_) fun _=>?_)
 refine ⟨⟨⟨p,bs,rs⟩,past⟩,?_,⟨hI⟩,?_⟩
 ·exact wq
 by_cases hO:deskOk ⟨⟨p,bs,rs⟩,past⟩
 ·dsimp only
  rw [decide_eq_true hO]
  by_cases h40:l.length≤40
  ·rw [sayX_ok hO h40] at h
   have hs:=deskOk_short hO
   repeat' (first|refine vz ?_|(conv=>whnf); first|with_reducible first|refine Sp.mk ?_ ?_|refine br_d (fun _=>?_) fun _=>?_|refine vM (fun _=>?_) fun _=>?_)
   refine ⟨_,_,[],[],rfl,?_,?_,⟨⟨p,bs,rs⟩,past⟩,rfl,rfl,⟨hs⟩,?_⟩
   ·exact wq
   ·exact wq
   dsimp only [deG,psO]
   repeat' (first|refine vz ?_|(conv=>whnf); first|with_reducible first|refine Sp.mk ?_ ?_|refine br_d (fun _=>?_) fun _=>?_|refine vM (fun _=>?_) fun _=>?_)
   refine Lp.mk ⟨Rj,fun x=>[(1,slS l),(4,.ptr 0 0),(7,.ptr 1 0),(6,.row 2 1 0 x.A.length),(8,.int .i64 x.i)],fun x=>[.box [.int .i64 0,.nils,.nils,.nils],.box [.int .i64 x.e.now.p,slI x.e.now.bs,slS x.e.now.rules,slP x.e.past],.row 1 x.A.length fun i=>encS (x.A.getD i ⟨#[]⟩)],fun x=>x.i≤l.length∧sayD ⟨⟨p,bs,rs⟩,past⟩ (l.take x.i)=(x.e,x.A),fun x=>l.length-x.i,⟨⟨0,⟨⟨p,bs,rs⟩,past⟩,[]⟩,⟨Nat.zero_le _,rfl⟩,?_⟩,?_⟩
   ·first|(refine ⟨⟨[some 1,some 3,none],[2],rfl,rfl,?_,?_⟩⟩ <;> (repeat' ((conv=>whnf); first|with_reducible exact True.intro|exact vW|with_reducible refine And.intro ?_ ?_|exact Chk.mk ⟨rfl,by dsimp only; omega,fun i _=>by dsimp only; (try rw [Nat.zero_add]); try rfl⟩)) <;> fail)|(refine ⟨⟨[some 1,some 2,none],[3],rfl,rfl,?_,?_⟩⟩ <;> (repeat' ((conv=>whnf); first|with_reducible exact True.intro|exact vW|with_reducible refine And.intro ?_ ?_|exact Chk.mk ⟨rfl,by dsimp only; omega,fun i _=>by dsimp only; (try rw [Nat.zero_add]); try rfl⟩)) <;> fail)
   rintro ⟨i,⟨⟨ep,eb,er⟩,el⟩,A⟩ ⟨i1,i2⟩
   dsimp only at i1 i2 ⊢
   have hOe:deskOk ⟨⟨ep,eb,er⟩,el⟩:=by have:=(sayD_ok hO (l.take i)).1; rw [i2] at this; exact this
   have hn:=sayD_len hO (l.take i)
   rw [i2,List.length_take] at hn
   dsimp only at hn
   by_cases hi:i<l.length
   ·have hst:=sayD_take (d:=⟨⟨p,bs,rs⟩,past⟩) hi
    rw [i2] at hst
    unfold sayF at hst
    dsimp only at hst
    have hs1:=hl _ (getD_mem' (d:=⟨#[]⟩) hi)
    generalize hA:l.getD i ⟨#[]⟩=s at hs1 hst
    have hA':l.getD (i:Int).toNat ⟨#[]⟩=s:=hA
    repeat' (first|refine vz ?_|(conv=>whnf); first|with_reducible first|refine Sp.mk ?_ ?_|refine br_d (fun _=>?_) fun _=>?_|refine vM (fun _=>?_) fun _=>?_)
    refine Dr.mk ⟨(.rd 0 (.rd 1 (.rd 2 (.rd 3 (.rd 4 (.ef 5 (.rd 6 (.rd 7 (.rd 8 (.ef 9 (.ef 10 (.rd 11 .dn) .no) .no)))) (.ef 9 (.ef 5 (.rd 6 (.rd 7 (.rd 8 (.ef 10 (.rd 11 .dn) .no)))) .no) .no))))))),by decide +kernel,?_⟩
    repeat' (first|refine vz ?_|(conv=>whnf); first|with_reducible first|refine Sp.mk ?_ ?_|refine br_d (fun _=>?_) fun _=>?_|refine vM (fun _=>?_) fun _=>?_)
    all_goals
     refine ⟨⟨⟨⟨ep,eb,er⟩,el⟩,s⟩,?_,⟨deskOk_I hOe,hs1⟩,?_⟩
     ·repeat' ((conv=>whnf); first|with_reducible exact True.intro|exact vW|with_reducible refine And.intro ?_ ?_)
      all_goals first|exact Chk.mk (by rw [hA'])
     refine ⟨fun _=>?_,fun q=>absurd hOe q⟩
     dsimp only
     generalize lineD ⟨⟨ep,eb,er⟩,el⟩ s=r at hst ⊢
     obtain ⟨⟨⟨fp,fb,fr⟩,fl⟩,w⟩:=r
     dsimp only [enDe,deC] at hst ⊢
     repeat' (first|refine vz ?_|(conv=>whnf); first|with_reducible first|refine Sp.mk ?_ ?_|refine br_d (fun _=>?_) fun _=>?_|refine vM (fun _=>?_) fun _=>?_)
     refine ⟨⟨i+1,⟨⟨fp,fb,fr⟩,fl⟩,A ++ [w]⟩,⟨by dsimp only; omega,hst⟩,by dsimp only; omega,?_⟩
     first|(refine ⟨⟨[some 0,some 1,some 5],[],rfl,rfl,?_,?_⟩⟩ <;> (repeat' ((conv=>whnf); first|with_reducible exact True.intro|exact vW|with_reducible refine And.intro ?_ ?_|exact Chk.mk ⟨rfl,by rw [List.length_append]; rfl⟩|exact Chk.mk (ext_push (enc:=encS) (d:=⟨#[]⟩) (l:=A) (x:=w) rfl))) <;> fail)|(refine ⟨⟨[some 0,some 1,some 4],[],rfl,rfl,?_,?_⟩⟩ <;> (repeat' ((conv=>whnf); first|with_reducible exact True.intro|exact vW|with_reducible refine And.intro ?_ ?_|exact Chk.mk ⟨rfl,by rw [List.length_append]; rfl⟩|exact Chk.mk (ext_push (enc:=encS) (d:=⟨#[]⟩) (l:=A) (x:=w) rfl))) <;> fail)
   ·obtain rfl:i=l.length:=by omega
    rw [List.take_length] at i2
    rw [i2] at h
    repeat' (first|refine vz ?_|(conv=>whnf); first|with_reducible first|refine Sp.mk ?_ ?_|refine br_d (fun _=>?_) fun _=>?_|refine vM (fun _=>?_) fun _=>?_)
    refine ⟨_,?_,h⟩
    repeat' ((conv=>whnf); first|with_reducible exact True.intro|exact vW|with_reducible refine And.intro ?_ ?_)
    all_goals exact Chk.mk ⟨rfl,fun i _=>by dsimp only; (try rw [Nat.zero_add]); try rfl⟩
  ·rw [sayX_no (fun q=>h40 q.2)] at h
   repeat' (first|refine vz ?_|(conv=>whnf); first|with_reducible first|refine Sp.mk ?_ ?_|refine br_d (fun _=>?_) fun _=>?_|refine vM (fun _=>?_) fun _=>?_)
   refine ⟨_,?_,h⟩
   repeat' ((conv=>whnf); first|with_reducible exact True.intro|exact vW|with_reducible refine And.intro ?_ ?_)
 ·dsimp only
  rw [decide_eq_false hO]
  rw [sayX_no (fun q=>hO q.1)] at h
  repeat' (first|refine vz ?_|(conv=>whnf); first|with_reducible first|refine Sp.mk ?_ ?_|refine br_d (fun _=>?_) fun _=>?_|refine vM (fun _=>?_) fun _=>?_)
  refine ⟨_,?_,h⟩
  repeat' ((conv=>whnf); first|with_reducible exact True.intro|exact vW|with_reducible refine And.intro ?_ ?_)
end Go.Proofs.YtapeebjjljohdaaGreatDoor.Vc
end
section
/- Part XM: comparisons of whatever desks; desks and deeds that are drawn. -/
namespace Go.Proofs.YtapeebjjljohdaaGreatDoor.Vc
open Go.Proofs
set_option maxRecDepth 10000
set_option maxHeartbeats 4000000
theorem deskOk_len {d:Desk} (h:deskOk d):lenD d:=⟨⟨Nat.le_trans h.1.1.2.1 (by decide),Nat.lt_of_le_of_lt h.1.2.1.2 (by decide)⟩,Nat.lt_of_le_of_lt h.2.1 (by decide),fun x hx=>⟨Nat.le_trans (h.2.2 x hx).1.2.1 (by decide),Nat.lt_of_le_of_lt (h.2.2 x hx).2.1.2 (by decide)⟩⟩
theorem drawnQ.len {x:Place} (h:drawnQ x):lenI x:=⟨Nat.le_trans h.bl (by decide),Nat.lt_of_le_of_lt h.rl (by decide)⟩
theorem drawnD.len {d:Desk} (h:drawnD d):lenD d:=⟨h.1.len,Nat.lt_of_le_of_lt h.2.1 (by decide),fun x hx=>(h.2.2 x hx).len⟩
theorem drawnQ.S {x:Place} (h:drawnQ x):placeS x:=⟨h.i,h.bl,Nat.le_trans h.rl (by decide)⟩
theorem tup2_sem {a a' b b':AV} (h1:semE a a') (h2:semE b b'):semE (.tup [a,b]) (.tup [a',b']):=by
 intro R w x hx
 cases hx with
 |data hd=>cases hd
 |tup _ xs g1 g2 =>
  refine .tup [a',b'] xs g1 fun j hj=>?_
  replace hj:j<2:=hj
  rcases (show j=0∨j=1 by omega) with rfl|rfl
  ·exact h1 R w _ (g2 0 (Nat.zero_lt_succ _))
  ·exact h2 R w _ (g2 1 (Nat.lt_succ_self _))
theorem ext_sem {s n m:Nat} {f g:Nat→List AV} (h:n=m∧∀ i,i<n→f i=g i):semE (.sl s n f) (.sl s m g):=by
 intro R w x hx
 cases hx with
 |data hd=>exact .data (hd.ext' h.1 h.2)
def drawnM (l:List Dd):Prop:=l.length≤41∧∀ a∈l,drawnA a
def C241:List AV→(AV→Prop)→Prop:=con (X:=List Int) (fun l=>[slB l]) bytesI fun _ K=>∀ (d:Desk) (l:List Dd),drawnD d→drawnM l→K (.tup [enDe d,slD l])
theorem drawnA0:drawnA default:=⟨⟨by decide,by decide⟩,⟨by decide,by decide⟩,⟨by decide,by decide⟩,Nat.zero_le _⟩
theorem F241:FF 20 C241:=by
 refine fitXS [] (by simp) [(36,C42),(40,C53),(37,C167),(51,C255)] (by simp only [List.mem_cons,List.not_mem_nil,or_false]; rintro _ (rfl|rfl|rfl|rfl) <;> first|exact F42|exact F53|exact F167|exact F255) Tryz.f20 ⟨rfl,by decide +kernel,by decide +kernel⟩ (fun _ _ _ hk h d a h1 h2=>hk _ (h d a h1 h2)) ?_
 rintro l K hl h
 refine ⟨Nat.le_of_ble_eq_true rfl,?_⟩
 repeat' (first|refine vz ?_|(conv=>whnf); first|with_reducible first|refine Sp.mk ?_ ?_|refine br_d (fun _=>?_) fun _=>?_|refine vM (fun _=>?_) fun _=>?_)
 refine ⟨_,_,[],[],rfl,?_,?_,l,rfl,rfl,⟨hl⟩,?_⟩
 ·exact wq
 ·exact wq
 rintro b ⟨h1,h2,h3,h4⟩
 dsimp only
 repeat' (first|refine vz ?_|(conv=>whnf); first|with_reducible first|refine Sp.mk ?_ ?_|refine br_d (fun _=>?_) fun _=>?_|refine vM (fun _=>?_) fun _=>?_)
 refine ⟨_,_,[1],[],rfl,?_,?_,(⟨b,0⟩,12),rfl,rfl,⟨⟨h1,h2,by dsimp only; omega,by dsimp only; omega⟩,by unfold i64r; dsimp only; omega⟩,?_⟩
 ·exact wq
 ·exact wq
 rintro ⟨⟨p,bs,rs⟩,past⟩ p1 f a1 a2 hd hf
 dsimp only at a1 a2 ⊢
 repeat' (first|refine vz ?_|(conv=>whnf); first|with_reducible first|refine Sp.mk ?_ ?_|refine br_d (fun _=>?_) fun _=>?_|refine vM (fun _=>?_) fun _=>?_)
 refine ⟨_,_,[1],[],rfl,?_,?_,(⟨b,p1⟩,30),rfl,rfl,⟨⟨h1,h2,by dsimp only; omega,by dsimp only; omega⟩,by unfold i64r; dsimp only; omega⟩,?_⟩
 ·exact wq
 ·exact wq
 intro v p2 v1 v2
 dsimp only at v1 v2 ⊢
 repeat' (first|refine vz ?_|(conv=>whnf); first|with_reducible first|refine Sp.mk ?_ ?_|refine br_d (fun _=>?_) fun _=>?_|refine vM (fun _=>?_) fun _=>?_)
 ·refine Dr.mk ⟨(.rd 0 (.ef 1 (.ef 2 (.rd 3 .dn) .no) (.ef 2 (.ef 1 (.rd 3 .dn) .no) .no))),by decide +kernel,?_⟩
  repeat' ((conv=>whnf); first|((with_reducible refine And.intro (Chk.mk ?_) ?_); (focus (refine ⟨rfl,?_,?_,?_⟩; (focus decide); (focus decide); (focus decide))))|refine vA ?_|with_reducible first|refine v8 ?_|refine Sp.mk ?_ ?_|refine vS ?_|refine vR ?_|refine vB ?_|refine br_nt ?_|refine br_tt ?_|refine br_ff ?_|refine vP ?_|refine vQ ?_|refine vT ?_|refine vF ?_|refine br_and ?_|refine br_or ?_|refine br_d (fun _=>?_) fun _=>?_|refine vM (fun _=>?_) fun _=>?_)
  all_goals
   refine ⟨_,tup2_sem (desk_sem ⟨⟨p,bs,rs⟩,past⟩ hf) (ext_sem ?_),h _ (List.replicate 41 default) hd ⟨by rw [List.length_replicate]; exact Nat.le_refl _,fun a ha=>by rw [List.eq_of_mem_replicate ha]; exact drawnA0⟩⟩
   refine ⟨by rw [List.length_replicate]; rfl,fun i hi=>?_⟩
   replace hi:i<41:=hi
   rw [List.getD_eq_getElem?_getD,List.getElem?_replicate,if_pos hi]
   rfl
 ·refine Dr.mk ⟨(.rd 0 (.rd 1 (.rd 2 (.rd 3 (.ef 4 (.ef 5 (.rd 6 .dn) .no) .no))))),by decide +kernel,?_⟩
  repeat' (first|refine vz ?_|(conv=>whnf); first|with_reducible first|refine Sp.mk ?_ ?_|refine br_d (fun _=>?_) fun _=>?_|refine vM (fun _=>?_) fun _=>?_)
  all_goals
   refine ⟨_,_,[1],[],rfl,?_,?_,⟨⟨b,p2⟩,⟨p,bs,rs⟩⟩,rfl,rfl,⟨⟨h1,h2,by dsimp only; omega,by dsimp only; omega⟩,hd.1.S⟩,?_⟩
   ·exact wq
   ·exact wq
   rintro m p3 m1 m2 m3 hm
   dsimp only at m1 m2 ⊢
   repeat' (first|refine vz ?_|(conv=>whnf); first|with_reducible first|refine Sp.mk ?_ ?_|refine br_d (fun _=>?_) fun _=>?_|refine vM (fun _=>?_) fun _=>?_)
  all_goals exact ⟨_,tup2_sem (desk_sem ⟨⟨p,bs,rs⟩,past⟩ hf) (ext_sem ⟨rfl,fun i _=>by dsimp only; (try rw [Nat.zero_add]); try rfl⟩),h _ m hd ⟨by omega,hm⟩⟩
end Go.Proofs.YtapeebjjljohdaaGreatDoor.Vc
end
