/- Part TO: deeds and desks that are drawn. -/
import Derived.Test.YtapeebjjljohdaaGreatDoorVc6
section
namespace Go.Proofs.YtapeebjjljohdaaGreatDoor.Vc
open Go.Proofs
set_option maxRecDepth 10000
set_option maxHeartbeats 4000000
structure drawnA (a:Dd):Prop where
 k0:i64r a.kind
 a0:i64r a.a
 b0:i64r a.b
 w0:a.words.size≤10000
def placeS (x:Place):Prop:=placeI x∧x.bs.length≤4∧x.rules.length≤100000
structure Pr where
 r:Rd
 x:Place
theorem kt {k:Int} (h0:0≤k) (h:k<8) (z:List AV):∃ v,0≤v∧v≤4∧[[AV.int .i64 0],[.int .i64 1],[.int .i64 2],[.int .i64 2],[.int .i64 2],[.int .i64 2],[.int .i64 3],[.int .i64 4]].getD (0+k.toNat) z=[.int .i64 v]:=by
 rcases (show k=0∨k=1∨k=2∨k=3∨k=4∨k=5∨k=6∨k=7 by omega) with rfl|rfl|rfl|rfl|rfl|rfl|rfl|rfl <;> exact ⟨_,by decide,by decide,rfl⟩
def C184:GC:=conG (X:=Pr) (fun x=>[.ptr 0 0,enPl x.x]) (fun x=>[rdO x.r.b x.r.p]) (fun x=>x.r.okn 450000000∧placeS x.x) fun x K=>∀ (a:Dd) (p':Int),x.r.p≤p'→p'≤x.r.p+250→drawnA a→K (ded a) [rdO x.r.b p']
theorem F184:GG 71 C184:=by
 refine fitG [(107,C173)] (by simp only [List.mem_cons,List.not_mem_nil,or_false]; rintro _ rfl <;> first|exact F173) [(38,C52),(40,C53),(116,C60)] (by simp only [List.mem_cons,List.not_mem_nil,or_false]; rintro _ (rfl|rfl|rfl) <;> first|exact F52|exact F53|exact F60) Tryz.f71 ⟨rfl,by decide +kernel,by decide +kernel⟩ (by intro x K K2 hk h; (try dsimp only at h ⊢); intros; apply hk; first|exact h|(apply h <;> assumption)) ?_
 rintro ⟨⟨b,p⟩,⟨q,bs,rs⟩⟩ K ⟨⟨h1,h2,h3,h4⟩,h5,h6,h7⟩ h
 refine ⟨Nat.le_of_ble_eq_true rfl,?_⟩
 dsimp only [enPl,plC] at h h1 h2 h3 h4 h5 h6 h7 ⊢
 apply later
 ·intro key1
  repeat' (first|refine vz ?_|(conv=>whnf); first|with_reducible first|refine Sp.mk ?_ ?_|refine br_d (fun _=>?_) fun _=>?_|refine vM (fun _=>?_) fun _=>?_)
  refine Dr.mk ⟨(.rd 1 (.rd 5 (.ef 0 (.ef 2 (.rd 3 (.rd 4 (.ef 6 (.rd 7 (.rd 8 (.rd 9 (.rd 10 (.ef 11 (.ef 12 .dn .no) .no))))) (.ef 11 (.ef 6 (.rd 7 (.rd 8 (.rd 9 (.rd 10 (.ef 12 .dn .no))))) .no) .no)))) (.ef 11 (.ef 2 (.rd 3 (.rd 4 (.ef 6 (.rd 7 (.rd 8 (.rd 9 (.rd 10 (.ef 12 .dn .no))))) .no))) .no) .no)) (.ef 2 (.ef 0 (.rd 3 (.rd 4 (.ef 6 (.rd 7 (.rd 8 (.rd 9 (.rd 10 (.ef 11 (.ef 12 .dn .no) .no))))) (.ef 11 (.ef 6 (.rd 7 (.rd 8 (.rd 9 (.rd 10 (.ef 12 .dn .no))))) .no) .no)))) (.ef 6 (.rd 7 (.rd 8 (.ef 0 (.rd 3 (.rd 4 (.rd 9 (.rd 10 (.ef 11 (.ef 12 .dn .no) .no))))) (.ef 11 (.ef 0 (.rd 3 (.rd 4 (.rd 9 (.rd 10 (.ef 12 .dn .no))))) .no) .no)))) (.ef 11 (.ef 0 (.rd 3 (.rd 4 (.ef 6 (.rd 7 (.rd 8 (.rd 9 (.rd 10 (.ef 12 .dn .no))))) .no))) (.ef 6 (.rd 7 (.rd 8 (.ef 0 (.rd 3 (.rd 4 (.rd 9 (.rd 10 (.ef 12 .dn .no))))) .no))) .no)) .no))) (.ef 11 (.ef 0 (.ef 2 (.rd 3 (.rd 4 (.ef 6 (.rd 7 (.rd 8 (.rd 9 (.rd 10 (.ef 12 .dn .no))))) .no))) .no) (.ef 2 (.ef 0 (.rd 3 (.rd 4 (.ef 6 (.rd 7 (.rd 8 (.rd 9 (.rd 10 (.ef 12 .dn .no))))) .no))) (.ef 6 (.rd 7 (.rd 8 (.ef 0 (.rd 3 (.rd 4 (.rd 9 (.rd 10 (.ef 12 .dn .no))))) .no))) .no)) .no)) .no))))),by decide +kernel,?_⟩
  repeat' (first|refine vz ?_|(conv=>whnf); first|with_reducible first|refine Sp.mk ?_ ?_|refine br_d (fun _=>?_) fun _=>?_|refine vM (fun _=>?_) fun _=>?_)
  all_goals
   refine ⟨_,_,[0],[],rfl,?_,?_,(⟨b,p⟩,8),rfl,rfl,⟨⟨h1,h2,?_,?_⟩,?_⟩,?_⟩
   ·repeat' ((conv=>whnf); first|with_reducible exact True.intro|exact vW|with_reducible refine And.intro ?_ ?_)
    try exact Chk.mk (by rw [pw_sh (by assumption)])
   ·exact wq
   ·dsimp only; omega
   ·dsimp only; omega
   ·unfold i64r; dsimp only; omega
   intro k1 p1 a0 a1 a2
   dsimp only at a0 a1 a2
   obtain ⟨v,v0,v1,hv⟩:=kt (a1 (by decide)).1 (a1 (by decide)).2 (lookT TT 3).z
   repeat' (first|refine vz ?_|(conv=>whnf); first|with_reducible first|refine Sp.mk ?_ ?_|refine br_d (fun _=>?_) fun _=>?_|refine vM (fun _=>?_) fun _=>?_)
  all_goals try
   dsimp only [List.drop]
   rw [hv]
   repeat' (first|refine vz ?_|(conv=>whnf); first|with_reducible first|refine Sp.mk ?_ ?_|refine br_d (fun _=>?_) fun _=>?_|refine vM (fun _=>?_) fun _=>?_)
  all_goals
   refine ⟨_,_,[0],[],rfl,?_,?_,(⟨b,p1⟩,60),rfl,rfl,⟨⟨h1,h2,?_,?_⟩,?_⟩,?_⟩
   ·repeat' ((conv=>whnf); first|with_reducible exact True.intro|exact vW|with_reducible refine And.intro ?_ ?_)
    try exact Chk.mk (by rw [pw_sh (by assumption)])
   ·exact wq
   ·dsimp only; omega
   ·dsimp only; omega
   ·unfold i64r; dsimp only; omega
   intro k2 p2 c0 c1 c2
   dsimp only at c0 c1 c2
   have e59:=Int.tdiv_eq_ediv_of_nonneg (a:=k2) (b:=59) (c1 (by decide)).1
   have c3:=c1 (by decide)
   repeat' ((conv=>whnf); first|with_reducible refine wk_at 3 ?_|with_reducible refine wk_at1 3 ?_|with_reducible refine wk_at2 3 ?_|refine vA ?_|with_reducible first|refine v8 ?_|refine Sp.mk ?_ ?_|refine vS ?_|refine vR ?_|refine vB ?_|refine br_nt ?_|refine br_tt ?_|refine br_ff ?_|refine vP ?_|refine vQ ?_|refine vT ?_|refine vF ?_|refine br_and ?_|refine br_or ?_|refine br_d (fun _=>?_) fun _=>?_|refine vM (fun _=>?_) fun _=>?_)
  all_goals try
   dsimp only [List.drop]
   rw [hv]
   repeat' ((conv=>whnf); first|with_reducible refine wk_at 3 ?_|with_reducible refine wk_at1 3 ?_|with_reducible refine wk_at2 3 ?_|refine vA ?_|with_reducible first|refine v8 ?_|refine Sp.mk ?_ ?_|refine vS ?_|refine vR ?_|refine vB ?_|refine br_nt ?_|refine br_tt ?_|refine br_ff ?_|refine vP ?_|refine vQ ?_|refine vT ?_|refine vF ?_|refine br_and ?_|refine br_or ?_|refine br_d (fun _=>?_) fun _=>?_|refine vM (fun _=>?_) fun _=>?_)
  all_goals
   obtain ⟨V,hV⟩:∃ V,(if 6<if 1 > q then 1 else q then 6 else if 1 > q then 1 else q)=V:=⟨_,rfl⟩
   obtain ⟨k,hk⟩:∃ k,v+k2.tdiv 59*5=k:=⟨_,rfl⟩
   have pV:people V:=by unfold people; subst hV; (repeat' split) <;> omega
   have k0:i64r k:=by unfold i64r; omega
   try rw [hV]
   try rw [hk]
   refine ⟨Wk.go [(0,.ptr 0 0),(3,.ptr 1 0),(4,.ptr 2 0),(5,.ptr 3 0),(6,.int .i64 V)] [rdO b p2,.box [.int .i64 q,slI bs,slS rs],.box [.int .i64 0,.int .i64 0,.int .i64 0,.str ⟨#[]⟩],.box [.int .i64 k,.int .i64 0,.int .i64 0,.str ⟨#[]⟩]] ?_ ?_⟩
   ·first|(refine ⟨⟨[some 0,some 1,some 2,some 4],[],rfl,rfl,?_,?_⟩⟩ <;> (repeat' ((conv=>whnf); first|with_reducible exact True.intro|exact vW|with_reducible refine And.intro ?_ ?_)) <;> fail)|(refine ⟨⟨[some 0,some 1,some 2,some 3],[],rfl,rfl,?_,?_⟩⟩ <;> (repeat' ((conv=>whnf); first|with_reducible exact True.intro|exact vW|with_reducible refine And.intro ?_ ?_)) <;> fail)
   have hp2:p≤p2∧p2≤p+2:=by omega
   clear hV hk e59 c3 c0 c1 c2
   revert V k p2
   exact key1.t
 ·intro p2 V k pV k0 hp2
  have pw2:=pw_le pV
  have hI:=h5.1.1
  apply later
  ·intro key2
   repeat' ((conv=>whnf); first|with_reducible refine wk_at 15 ?_|with_reducible refine wk_at1 15 ?_|with_reducible refine wk_at2 15 ?_|refine vA ?_|with_reducible first|refine v8 ?_|refine Sp.mk ?_ ?_|refine vS ?_|refine vR ?_|refine vB ?_|refine br_nt ?_|refine br_tt ?_|refine br_ff ?_|refine vP ?_|refine vQ ?_|refine vT ?_|refine vF ?_|refine br_and ?_|refine br_or ?_|refine br_d (fun _=>?_) fun _=>?_|refine vM (fun _=>?_) fun _=>?_)
   ·repeat' (first|refine vz ?_|(conv=>whnf); first|with_reducible refine Wr.ex (wsh pV) ?_|with_reducible refine Wr.ex (wi64 (by rw [pw_sh pV]; omega) (by rw [pw_sh pV]; omega)) ?_|with_reducible first|refine Sp.mk ?_ ?_|refine br_d (fun _=>?_) fun _=>?_|refine vM (fun _=>?_) fun _=>?_)
    refine ⟨_,_,[0],[],rfl,?_,?_,(⟨b,p2⟩,(pw V-1)),rfl,rfl,⟨⟨h1,h2,?_,?_⟩,?_⟩,?_⟩
    ·repeat' ((conv=>whnf); first|with_reducible exact True.intro|exact vW|with_reducible refine And.intro ?_ ?_)
     try exact Chk.mk (by rw [pw_sh (by assumption)])
    ·exact wq
    ·dsimp only; omega
    ·dsimp only; omega
    ·unfold i64r; dsimp only; omega
    intro j1 p3 c0 c1 c2
    dsimp only at c0 c1 c2
    repeat' ((conv=>whnf); first|with_reducible refine wk_at 15 ?_|with_reducible refine wk_at1 15 ?_|with_reducible refine wk_at2 15 ?_|refine vA ?_|with_reducible first|refine v8 ?_|refine Sp.mk ?_ ?_|refine vS ?_|refine vR ?_|refine vB ?_|refine br_nt ?_|refine br_tt ?_|refine br_ff ?_|refine vP ?_|refine vQ ?_|refine vT ?_|refine vF ?_|refine br_and ?_|refine br_or ?_|refine br_d (fun _=>?_) fun _=>?_|refine vM (fun _=>?_) fun _=>?_)
    obtain ⟨A,hA⟩:∃ A:Int,A=1+j1:=⟨_,rfl⟩
    obtain ⟨B,hB⟩:∃ B:Int,B=0:=⟨_,rfl⟩
    obtain ⟨W,hW⟩:∃ W:ByteArray,⟨#[]⟩=W:=⟨_,rfl⟩
    have A0:i64r A:=by rw [hA]; first|exact wi64r _|(unfold i64r; omega)
    have B0:i64r B:=by rw [hB]; first|exact wi64r _|(unfold i64r; omega)
    have W0:W.size≤10000:=by rw [← hW]; first|exact ttext_size _ _|exact Nat.zero_le _
    obtain ⟨p9,hp9⟩:∃ p9:Int,p9=p3:=⟨_,rfl⟩
    have p90:p≤p9∧p9≤p+200:=by omega
    refine ⟨Wk.go [(0,.ptr 0 0),(4,.ptr 1 0),(5,.ptr 2 0)] [rdO b p9,.box [.int .i64 0,.int .i64 0,.int .i64 0,.str ⟨#[]⟩],.box [.int .i64 k,.int .i64 A,.int .i64 B,.str W]] ⟨⟨[some 0,some 2,some 3],[],rfl,rfl,?_,?_⟩⟩ ?_⟩
    ·exact wq
    ·subst hW
     repeat' ((conv=>whnf); first|with_reducible exact True.intro|exact vW|with_reducible refine And.intro ?_ ?_)
    clear hA hB hW hp9
    revert A B W p9
    exact key2.t
   ·refine Dr.mk ⟨(.rd 0 (.rd 1 (.rd 2 (.rd 3 (.rd 4 (.ef 5 (.ef 6 (.rd 7 (.ef 8 .dn .no)) .no) .no)))))),by decide +kernel,?_⟩
    repeat' (first|refine vz ?_|(conv=>whnf); first|with_reducible first|refine Sp.mk ?_ ?_|refine br_d (fun _=>?_) fun _=>?_|refine vM (fun _=>?_) fun _=>?_)
    refine ⟨_,_,[0],[],rfl,?_,?_,⟨⟨b,p2⟩,⟨q,bs⟩,0⟩,rfl,rfl,⟨⟨h1,h2,by dsimp only; omega,by dsimp only; omega⟩,hI,by dsimp only; omega,by unfold i64r; dsimp only; omega⟩,?_⟩
    ·exact wq
    ·exact wq
    intro t p3 t1 t2 t3 t4
    dsimp only at t1 t2 t3 t4 ⊢
    repeat' (first|refine vz ?_|(conv=>whnf); first|with_reducible first|refine Sp.mk ?_ ?_|refine br_d (fun _=>?_) fun _=>?_|refine vM (fun _=>?_) fun _=>?_)
    refine ⟨(⟨q,bs⟩,t),?_,⟨hI,by dsimp only; omega,t4,by dsimp only; omega⟩,?_⟩
    ·exact wq
    repeat' ((conv=>whnf); first|with_reducible refine wk_at 15 ?_|with_reducible refine wk_at1 15 ?_|with_reducible refine wk_at2 15 ?_|refine vA ?_|with_reducible first|refine v8 ?_|refine Sp.mk ?_ ?_|refine vS ?_|refine vR ?_|refine vB ?_|refine br_nt ?_|refine br_tt ?_|refine br_ff ?_|refine vP ?_|refine vQ ?_|refine vT ?_|refine vF ?_|refine br_and ?_|refine br_or ?_|refine br_d (fun _=>?_) fun _=>?_|refine vM (fun _=>?_) fun _=>?_)
    obtain ⟨A,hA⟩:∃ A:Int,A=0:=⟨_,rfl⟩
    obtain ⟨B,hB⟩:∃ B:Int,B=0:=⟨_,rfl⟩
    obtain ⟨W,hW⟩:∃ W:ByteArray,ttext (⟨q,bs⟩,t)=W:=⟨_,rfl⟩
    have A0:i64r A:=by rw [hA]; first|exact wi64r _|(unfold i64r; omega)
    have B0:i64r B:=by rw [hB]; first|exact wi64r _|(unfold i64r; omega)
    have W0:W.size≤10000:=by rw [← hW]; first|exact ttext_size _ _|exact Nat.zero_le _
    obtain ⟨p9,hp9⟩:∃ p9:Int,p9=p3:=⟨_,rfl⟩
    have p90:p≤p9∧p9≤p+200:=by omega
    refine ⟨Wk.go [(0,.ptr 0 0),(4,.ptr 1 0),(5,.ptr 2 0)] [rdO b p9,.box [.int .i64 0,.int .i64 0,.int .i64 0,.str ⟨#[]⟩],.box [.int .i64 k,.int .i64 A,.int .i64 B,.str W]] ⟨⟨[some 0,some 2,some 3],[],rfl,rfl,?_,?_⟩⟩ ?_⟩
    ·exact wq
    ·subst hW
     repeat' ((conv=>whnf); first|with_reducible exact True.intro|exact vW|with_reducible refine And.intro ?_ ?_)
    clear hA hB hW hp9
    revert A B W p9
    exact key2.t
   ·refine ⟨_,_,[0],[],rfl,?_,?_,(⟨b,p2⟩,(if 1 > (rs.length:Int) then 1 else (rs.length:Int))),rfl,rfl,⟨⟨h1,h2,?_,?_⟩,?_⟩,?_⟩
    ·repeat' ((conv=>whnf); first|with_reducible exact True.intro|exact vW|with_reducible refine And.intro ?_ ?_)
     try exact Chk.mk (by rw [pw_sh (by assumption)])
    ·exact wq
    ·dsimp only; omega
    ·dsimp only; omega
    ·unfold i64r; dsimp only; omega
    intro j1 p3 c0 c1 c2
    dsimp only at c0 c1 c2
    have c3:i64r j1:=by unfold i64r; split at c1 <;> omega
    repeat' (first|refine vz ?_|(conv=>whnf); first|with_reducible first|refine Sp.mk ?_ ?_|refine br_d (fun _=>?_) fun _=>?_|refine vM (fun _=>?_) fun _=>?_)
    refine Dr.mk ⟨(.rd 0 (.rd 1 (.rd 2 (.rd 4 (.rd 5 (.rd 6 (.ef 3 (.ef 7 (.rd 8 (.rd 9 (.ef 10 .dn .no))) .no) .no))))))),by decide +kernel,?_⟩
    repeat' (first|refine vz ?_|(conv=>whnf); first|with_reducible refine Wr.ex (wsh pV) ?_|with_reducible first|refine Sp.mk ?_ ?_|refine br_d (fun _=>?_) fun _=>?_|refine vM (fun _=>?_) fun _=>?_)
    refine ⟨_,_,[0],[],rfl,?_,?_,(⟨b,p3⟩,(pw V)),rfl,rfl,⟨⟨h1,h2,?_,?_⟩,?_⟩,?_⟩
    ·repeat' ((conv=>whnf); first|with_reducible exact True.intro|exact vW|with_reducible refine And.intro ?_ ?_)
     try exact Chk.mk (by rw [pw_sh (by assumption)])
    ·exact wq
    ·dsimp only; omega
    ·dsimp only; omega
    ·unfold i64r; dsimp only; omega
    intro j2 p4 d0 d1 d2
    dsimp only at d0 d1 d2
    repeat' (first|refine vz ?_|(conv=>whnf); first|with_reducible first|refine Sp.mk ?_ ?_|refine br_d (fun _=>?_) fun _=>?_|refine vM (fun _=>?_) fun _=>?_)
    refine ⟨_,_,[0],[],rfl,?_,?_,(⟨b,p4⟩,(pw V)),rfl,rfl,⟨⟨h1,h2,?_,?_⟩,?_⟩,?_⟩
    ·repeat' ((conv=>whnf); first|with_reducible exact True.intro|exact vW|with_reducible refine And.intro ?_ ?_)
     try exact Chk.mk (by rw [pw_sh (by assumption)])
    ·exact wq
    ·dsimp only; omega
    ·dsimp only; omega
    ·unfold i64r; dsimp only; omega
    intro j3 p5 e0 e1 e2
    dsimp only at e0 e1 e2
    repeat' (first|refine vz ?_|(conv=>whnf); first|with_reducible first|refine Sp.mk ?_ ?_|refine br_d (fun _=>?_) fun _=>?_|refine vM (fun _=>?_) fun _=>?_)
    refine Dr.mk ⟨(.rd 0 (.rd 1 (.rd 2 (.rd 3 (.rd 4 (.ef 5 (.ef 6 (.rd 7 (.ef 8 .dn .no)) .no) .no)))))),by decide +kernel,?_⟩
    repeat' (first|refine vz ?_|(conv=>whnf); first|with_reducible first|refine Sp.mk ?_ ?_|refine br_d (fun _=>?_) fun _=>?_|refine vM (fun _=>?_) fun _=>?_)
    refine ⟨_,_,[0],[],rfl,?_,?_,⟨⟨b,p5⟩,⟨q,bs⟩,0⟩,rfl,rfl,⟨⟨h1,h2,by dsimp only; omega,by dsimp only; omega⟩,hI,by dsimp only; omega,by unfold i64r; dsimp only; omega⟩,?_⟩
    ·exact wq
    ·exact wq
    intro t p6 t1 t2 t3 t4
    dsimp only at t1 t2 t3 t4 ⊢
    repeat' (first|refine vz ?_|(conv=>whnf); first|with_reducible first|refine Sp.mk ?_ ?_|refine br_d (fun _=>?_) fun _=>?_|refine vM (fun _=>?_) fun _=>?_)
    refine ⟨(⟨q,bs⟩,t),?_,⟨hI,by dsimp only; omega,t4,by dsimp only; omega⟩,?_⟩
    ·exact wq
    repeat' ((conv=>whnf); first|with_reducible refine wk_at 15 ?_|with_reducible refine wk_at1 15 ?_|with_reducible refine wk_at2 15 ?_|refine vA ?_|with_reducible first|refine v8 ?_|refine Sp.mk ?_ ?_|refine vS ?_|refine vR ?_|refine vB ?_|refine br_nt ?_|refine br_tt ?_|refine br_ff ?_|refine vP ?_|refine vQ ?_|refine vT ?_|refine vF ?_|refine br_and ?_|refine br_or ?_|refine br_d (fun _=>?_) fun _=>?_|refine vM (fun _=>?_) fun _=>?_)
    obtain ⟨A,hA⟩:∃ A:Int,A=j1:=⟨_,rfl⟩
    obtain ⟨B,hB⟩:∃ B:Int,B=(bitop .i64 .or j2 j3):=⟨_,rfl⟩
    obtain ⟨W,hW⟩:∃ W:ByteArray,ttext (⟨q,bs⟩,t)=W:=⟨_,rfl⟩
    have A0:i64r A:=by rw [hA]; first|exact wi64r _|(unfold i64r; omega)
    have B0:i64r B:=by rw [hB]; first|exact wi64r _|(unfold i64r; omega)
    have W0:W.size≤10000:=by rw [← hW]; first|exact ttext_size _ _|exact Nat.zero_le _
    obtain ⟨p9,hp9⟩:∃ p9:Int,p9=p6:=⟨_,rfl⟩
    have p90:p≤p9∧p9≤p+200:=by omega
    refine ⟨Wk.go [(0,.ptr 0 0),(4,.ptr 1 0),(5,.ptr 2 0)] [rdO b p9,.box [.int .i64 0,.int .i64 0,.int .i64 0,.str ⟨#[]⟩],.box [.int .i64 k,.int .i64 A,.int .i64 B,.str W]] ⟨⟨[some 0,some 2,some 3],[],rfl,rfl,?_,?_⟩⟩ ?_⟩
    ·exact wq
    ·subst hW
     repeat' ((conv=>whnf); first|with_reducible exact True.intro|exact vW|with_reducible refine And.intro ?_ ?_)
    clear hA hB hW hp9
    revert A B W p9
    exact key2.t
   ·refine ⟨_,_,[0],[],rfl,?_,?_,(⟨b,p2⟩,(if 1 > (rs.length:Int) then 1 else (rs.length:Int))),rfl,rfl,⟨⟨h1,h2,?_,?_⟩,?_⟩,?_⟩
    ·repeat' ((conv=>whnf); first|with_reducible exact True.intro|exact vW|with_reducible refine And.intro ?_ ?_)
     try exact Chk.mk (by rw [pw_sh (by assumption)])
    ·exact wq
    ·dsimp only; omega
    ·dsimp only; omega
    ·unfold i64r; dsimp only; omega
    intro j1 p3 c0 c1 c2
    dsimp only at c0 c1 c2
    have c3:i64r j1:=by unfold i64r; split at c1 <;> omega
    repeat' (first|refine vz ?_|(conv=>whnf); first|with_reducible first|refine Sp.mk ?_ ?_|refine br_d (fun _=>?_) fun _=>?_|refine vM (fun _=>?_) fun _=>?_)
    refine Dr.mk ⟨(.rd 0 (.rd 1 (.rd 2 (.rd 4 (.rd 5 (.rd 6 (.ef 3 (.ef 7 (.rd 8 (.rd 9 (.ef 10 .dn .no))) .no) .no))))))),by decide +kernel,?_⟩
    repeat' (first|refine vz ?_|(conv=>whnf); first|with_reducible refine Wr.ex (wsh pV) ?_|with_reducible first|refine Sp.mk ?_ ?_|refine br_d (fun _=>?_) fun _=>?_|refine vM (fun _=>?_) fun _=>?_)
    refine ⟨_,_,[0],[],rfl,?_,?_,(⟨b,p3⟩,(pw V)),rfl,rfl,⟨⟨h1,h2,?_,?_⟩,?_⟩,?_⟩
    ·repeat' ((conv=>whnf); first|with_reducible exact True.intro|exact vW|with_reducible refine And.intro ?_ ?_)
     try exact Chk.mk (by rw [pw_sh (by assumption)])
    ·exact wq
    ·dsimp only; omega
    ·dsimp only; omega
    ·unfold i64r; dsimp only; omega
    intro j2 p4 d0 d1 d2
    dsimp only at d0 d1 d2
    repeat' (first|refine vz ?_|(conv=>whnf); first|with_reducible first|refine Sp.mk ?_ ?_|refine br_d (fun _=>?_) fun _=>?_|refine vM (fun _=>?_) fun _=>?_)
    refine ⟨_,_,[0],[],rfl,?_,?_,(⟨b,p4⟩,(pw V)),rfl,rfl,⟨⟨h1,h2,?_,?_⟩,?_⟩,?_⟩
    ·repeat' ((conv=>whnf); first|with_reducible exact True.intro|exact vW|with_reducible refine And.intro ?_ ?_)
     try exact Chk.mk (by rw [pw_sh (by assumption)])
    ·exact wq
    ·dsimp only; omega
    ·dsimp only; omega
    ·unfold i64r; dsimp only; omega
    intro j3 p5 e0 e1 e2
    dsimp only at e0 e1 e2
    repeat' ((conv=>whnf); first|with_reducible refine wk_at 15 ?_|with_reducible refine wk_at1 15 ?_|with_reducible refine wk_at2 15 ?_|refine vA ?_|with_reducible first|refine v8 ?_|refine Sp.mk ?_ ?_|refine vS ?_|refine vR ?_|refine vB ?_|refine br_nt ?_|refine br_tt ?_|refine br_ff ?_|refine vP ?_|refine vQ ?_|refine vT ?_|refine vF ?_|refine br_and ?_|refine br_or ?_|refine br_d (fun _=>?_) fun _=>?_|refine vM (fun _=>?_) fun _=>?_)
    obtain ⟨A,hA⟩:∃ A:Int,A=j1:=⟨_,rfl⟩
    obtain ⟨B,hB⟩:∃ B:Int,B=(bitop .i64 .or j2 j3):=⟨_,rfl⟩
    obtain ⟨W,hW⟩:∃ W:ByteArray,⟨#[]⟩=W:=⟨_,rfl⟩
    have A0:i64r A:=by rw [hA]; first|exact wi64r _|(unfold i64r; omega)
    have B0:i64r B:=by rw [hB]; first|exact wi64r _|(unfold i64r; omega)
    have W0:W.size≤10000:=by rw [← hW]; first|exact ttext_size _ _|exact Nat.zero_le _
    obtain ⟨p9,hp9⟩:∃ p9:Int,p9=p5:=⟨_,rfl⟩
    have p90:p≤p9∧p9≤p+200:=by omega
    refine ⟨Wk.go [(0,.ptr 0 0),(4,.ptr 1 0),(5,.ptr 2 0)] [rdO b p9,.box [.int .i64 0,.int .i64 0,.int .i64 0,.str ⟨#[]⟩],.box [.int .i64 k,.int .i64 A,.int .i64 B,.str W]] ⟨⟨[some 0,some 2,some 3],[],rfl,rfl,?_,?_⟩⟩ ?_⟩
    ·exact wq
    ·subst hW
     repeat' ((conv=>whnf); first|with_reducible exact True.intro|exact vW|with_reducible refine And.intro ?_ ?_)
    clear hA hB hW hp9
    revert A B W p9
    exact key2.t
   ·obtain ⟨A,hA⟩:∃ A:Int,A=0:=⟨_,rfl⟩
    obtain ⟨B,hB⟩:∃ B:Int,B=0:=⟨_,rfl⟩
    obtain ⟨W,hW⟩:∃ W:ByteArray,⟨#[]⟩=W:=⟨_,rfl⟩
    have A0:i64r A:=by rw [hA]; first|exact wi64r _|(unfold i64r; omega)
    have B0:i64r B:=by rw [hB]; first|exact wi64r _|(unfold i64r; omega)
    have W0:W.size≤10000:=by rw [← hW]; first|exact ttext_size _ _|exact Nat.zero_le _
    obtain ⟨p9,hp9⟩:∃ p9:Int,p9=p2:=⟨_,rfl⟩
    have p90:p≤p9∧p9≤p+200:=by omega
    refine ⟨Wk.go [(0,.ptr 0 0),(4,.ptr 1 0),(5,.ptr 2 0)] [rdO b p9,.box [.int .i64 0,.int .i64 0,.int .i64 0,.str ⟨#[]⟩],.box [.int .i64 k,.int .i64 A,.int .i64 B,.str W]] ⟨⟨[some 0,some 2,some 3],[],rfl,rfl,?_,?_⟩⟩ ?_⟩
    ·exact wq
    ·subst hW
     repeat' ((conv=>whnf); first|with_reducible exact True.intro|exact vW|with_reducible refine And.intro ?_ ?_)
    clear hA hB hW hp9
    revert A B W p9
    exact key2.t
  ·intro A B W A0 B0 W0 p9 p90
   repeat' (first|refine vz ?_|(conv=>whnf); first|with_reducible first|refine Sp.mk ?_ ?_|refine br_d (fun _=>?_) fun _=>?_|refine vM (fun _=>?_) fun _=>?_)
   refine ⟨_,_,[0],[],rfl,?_,?_,(⟨b,p9⟩,40),rfl,rfl,⟨⟨h1,h2,by dsimp only; omega,by dsimp only; omega⟩,by unfold i64r; dsimp only; omega⟩,?_⟩
   ·exact wq
   ·exact wq
   intro o p10 g1 g2
   dsimp only at g1 g2
   repeat' (first|refine vz ?_|(conv=>whnf); first|with_reducible first|refine Sp.mk ?_ ?_|refine br_d (fun _=>?_) fun _=>?_|refine vM (fun _=>?_) fun _=>?_)
   ·refine ⟨_,_,[0],[],rfl,?_,?_,(⟨b,p10⟩,3),rfl,rfl,⟨⟨h1,h2,?_,?_⟩,?_⟩,?_⟩
    ·repeat' ((conv=>whnf); first|with_reducible exact True.intro|exact vW|with_reducible refine And.intro ?_ ?_)
     try exact Chk.mk (by rw [pw_sh (by assumption)])
    ·exact wq
    ·dsimp only; omega
    ·dsimp only; omega
    ·unfold i64r; dsimp only; omega
    intro r1 p11 f0 f1 f2
    dsimp only at f0 f1 f2
    repeat' (first|refine vz ?_|(conv=>whnf); first|with_reducible first|refine Sp.mk ?_ ?_|refine br_d (fun _=>?_) fun _=>?_|refine vM (fun _=>?_) fun _=>?_)
    ·refine ⟨_,_,[0],[],rfl,?_,?_,(⟨b,p11⟩,2),rfl,rfl,⟨⟨h1,h2,?_,?_⟩,?_⟩,?_⟩
     ·repeat' ((conv=>whnf); first|with_reducible exact True.intro|exact vW|with_reducible refine And.intro ?_ ?_)
      try exact Chk.mk (by rw [pw_sh (by assumption)])
     ·exact wq
     ·dsimp only; omega
     ·dsimp only; omega
     ·unfold i64r; dsimp only; omega
     intro r2 p12 g0 g1 g2
     dsimp only at g0 g1 g2
     rcases (show r2=0∨r2=1 by omega) with rfl|rfl
     ·repeat' (first|refine vz ?_|(conv=>whnf); first|with_reducible first|refine Sp.mk ?_ ?_|refine br_d (fun _=>?_) fun _=>?_|refine vM (fun _=>?_) fun _=>?_)
      refine ⟨_,_,[some 0],[],rfl,rfl,?_,?_,h ⟨k,(-1),B,W⟩ p12 (by omega) (by omega) ⟨k0,(show i64r (-1) from ⟨by decide,by decide⟩),B0,W0⟩⟩
      ·exact wq
      ·exact wq
     ·repeat' (first|refine vz ?_|(conv=>whnf); first|with_reducible first|refine Sp.mk ?_ ?_|refine br_d (fun _=>?_) fun _=>?_|refine vM (fun _=>?_) fun _=>?_)
      refine ⟨_,_,[some 0],[],rfl,rfl,?_,?_,h ⟨k,100,B,W⟩ p12 (by omega) (by omega) ⟨k0,(show i64r 100 from ⟨by decide,by decide⟩),B0,W0⟩⟩
      ·exact wq
      ·exact wq
    ·refine ⟨_,_,[0],[],rfl,?_,?_,(⟨b,p11⟩,3),rfl,rfl,⟨⟨h1,h2,?_,?_⟩,?_⟩,?_⟩
     ·repeat' ((conv=>whnf); first|with_reducible exact True.intro|exact vW|with_reducible refine And.intro ?_ ?_)
      try exact Chk.mk (by rw [pw_sh (by assumption)])
     ·exact wq
     ·dsimp only; omega
     ·dsimp only; omega
     ·unfold i64r; dsimp only; omega
     intro r2 p12 g0 g1 g2
     dsimp only at g0 g1 g2
     rcases (show r2=0∨r2=1∨r2=2 by omega) with rfl|rfl|rfl
     ·repeat' (first|refine vz ?_|(conv=>whnf); first|with_reducible first|refine Sp.mk ?_ ?_|refine br_d (fun _=>?_) fun _=>?_|refine vM (fun _=>?_) fun _=>?_)
      refine ⟨_,_,[some 0],[],rfl,rfl,?_,?_,h ⟨k,A,B,⟨#[40,65,49,41]⟩⟩ p12 (by omega) (by omega) ⟨k0,A0,B0,(show (4:Nat)≤10000 by decide)⟩⟩
      ·exact wq
      ·exact wq
     ·repeat' (first|refine vz ?_|(conv=>whnf); first|with_reducible first|refine Sp.mk ?_ ?_|refine br_d (fun _=>?_) fun _=>?_|refine vM (fun _=>?_) fun _=>?_)
      refine ⟨_,_,[some 0],[],rfl,rfl,?_,?_,h ⟨k,A,B,⟨#[97,32,98]⟩⟩ p12 (by omega) (by omega) ⟨k0,A0,B0,(show (3:Nat)≤10000 by decide)⟩⟩
      ·exact wq
      ·exact wq
     ·repeat' (first|refine vz ?_|(conv=>whnf); first|with_reducible first|refine Sp.mk ?_ ?_|refine br_d (fun _=>?_) fun _=>?_|refine vM (fun _=>?_) fun _=>?_)
      refine ⟨_,_,[some 0],[],rfl,rfl,?_,?_,h ⟨k,A,B,⟨#[]⟩⟩ p12 (by omega) (by omega) ⟨k0,A0,B0,(show (0:Nat)≤10000 by decide)⟩⟩
      ·exact wq
      ·exact wq
    ·refine ⟨_,_,[some 0],[],rfl,rfl,?_,?_,h ⟨k,A,99,W⟩ p11 (by omega) (by omega) ⟨k0,A0,(show i64r 99 from ⟨by decide,by decide⟩),W0⟩⟩
     ·exact wq
     ·exact wq
   ·refine ⟨_,_,[some 0],[],rfl,rfl,?_,?_,h ⟨k,A,B,W⟩ p10 (by omega) (by omega) ⟨k0,A0,B0,W0⟩⟩
    ·exact wq
    ·exact wq
/-! ### Desks that are drawn -/
structure drawnQ (x:Place):Prop where
 i:placeI x
 bl:x.bs.length≤4
 rl:x.rules.length≤4
 rr:∀ r∈x.rules,r.size≤10000
def drawnD (d:Desk):Prop:=drawnQ d.now∧d.past.length≤9∧∀ p∈d.past,drawnQ p
def goodD (d:Desk):Prop:=drawnD d∧(deskOk d∨d=default)
theorem drawnQ0:drawnQ default:=⟨placeI0,(by decide:0≤4),(by decide:0≤4),fun _ h=>by cases h⟩
theorem drawnD0:drawnD default:=⟨drawnQ0,(by decide:0≤9),fun _ h=>by cases h⟩
theorem drawnP.q {x:Place} (h:drawnP x):drawnQ x:=⟨h.I,h.bl,h.rl,h.rr⟩
theorem drawnQ.s {x:Place} (h:drawnQ x):shortP x:=⟨Nat.le_trans h.rl (by decide),Nat.le_trans h.bl (by decide)⟩
theorem drawnD.I {d:Desk} (h:drawnD d):deskI d:=⟨h.1.i,Nat.lt_of_le_of_lt h.2.1 (by decide),fun p hp=>(h.2.2 p hp).i⟩
theorem newDe_good {x:Place} (h:drawnP x):goodD (newDe x):=by
 unfold newDe
 split
 ·rename_i hO
  exact ⟨⟨h.q,(by decide:0≤9),fun _ h=>by cases h⟩,.inl ⟨hO,(by decide:0≤8),fun _ h=>by cases h⟩⟩
 ·exact ⟨drawnD0,.inr rfl⟩
theorem madeP_mem {x:Place} {a:Dd}:∀ r∈(madeP x a).rules,r∈x.rules∨r=a.words:=by
 unfold madeP
 intro r hr
 split at hr
 ·exact .inl hr
 ·split at hr
  ·exact (List.mem_append.1 hr).imp id fun h=>List.mem_singleton.1 h
  ·split at hr
   ·exact (List.mem_or_eq_of_mem_set hr)
   ·split at hr
    ·exact .inl ((List.mem_append.1 hr).elim (fun h=>List.mem_of_mem_take h) fun h=>List.mem_of_mem_drop h)
    ·cases hr
theorem drawnA.I {a:Dd} (h:drawnA a):dedI a:=⟨h.k0,h.a0,h.b0,Nat.lt_of_le_of_lt h.w0 (by decide)⟩
theorem doD_good {d e:Desk} {a:Dd} (h:drawnD d) (hO:deskOk d) (ha:drawnA a) (he:doD d a=some e):goodD e:=by
 unfold doD at he
 split at he
 ·rename_i g
  cases he
  have m:d.past.getD (d.past.length-1) default∈d.past:=getD_mem' (by omega)
  refine ⟨⟨h.2.2 _ m,?_,fun p hp=>h.2.2 p (List.mem_of_mem_take hp)⟩,.inl ⟨hO.2.2 _ m,?_,fun p hp=>hO.2.2 p (List.mem_of_mem_take hp)⟩⟩
  ·have:=h.2.1
   dsimp only
   rw [List.length_take]
   omega
  ·have:=hO.2.1
   dsimp only
   rw [List.length_take]
   omega
 ·split at he
  ·rename_i g
   cases he
   have M:=madeP_I h.1.i h.1.s ha.I
   have P:=g.1
   have L:=hO.2.1
   have mem:∀ p∈pushP d.past d.now,p∈d.past∨p=d.now:=by
    unfold pushP
    intro p hp
    split at hp
    ·exact (List.mem_append.1 (List.mem_of_mem_drop hp)).imp id fun h=>List.mem_singleton.1 h
    ·exact (List.mem_append.1 hp).imp id fun h=>List.mem_singleton.1 h
   have len:(pushP d.past d.now).length≤8:=by
    unfold pushP
    split
    ·rw [List.length_drop,List.length_append]
     show d.past.length+1-1≤8
     omega
    ·omega
   have q:drawnQ (madeP d.now a):=⟨M,P.1.2.1,P.2.1.2,fun r hr=>(madeP_mem r hr).elim (fun k=>h.1.rr r k) fun k=>k ▸ ha.w0⟩
   exact ⟨⟨q,Nat.le_trans len (by decide),fun p hp=>(mem p hp).elim (fun k=>h.2.2 p k) fun k=>k ▸ h.1⟩,.inl ⟨P,len,fun p hp=>(mem p hp).elim (fun k=>hO.2.2 p k) fun k=>k ▸ hO.1⟩⟩
  ·cases he
theorem canD_t {d:Desk} {a:Dd} (h:canD d a=true):∃ e,deskOk d∧doD d a=some e∧afterD d a=e:=by
 unfold canD at h
 rw [Bool.and_eq_true,decide_eq_true_eq,Option.isSome_iff_exists] at h
 obtain ⟨e,he⟩:=h.2
 exact ⟨e,h.1,he,afterD_some h.1 he⟩
end Go.Proofs.YtapeebjjljohdaaGreatDoor.Vc
end
section
/- Part XB: deeds at a desk, one after the other: the plain law. -/
namespace Go.Proofs.YtapeebjjljohdaaGreatDoor.Vc
open Go.Proofs
set_option maxRecDepth 10000
set_option maxHeartbeats 4000000
theorem pushP_mem {l:List Place} {x:Place}:∀ p∈pushP l x,p∈l∨p=x:=by
 unfold pushP
 intro p hp
 split at hp
 ·exact (List.mem_append.1 (List.mem_of_mem_drop hp)).imp id fun h=>List.mem_singleton.1 h
 ·exact (List.mem_append.1 hp).imp id fun h=>List.mem_singleton.1 h
theorem pushP_len {l:List Place} {x:Place} (h:l.length≤8):(pushP l x).length≤8:=by
 unfold pushP
 split
 ·rw [List.length_drop,List.length_append]
  show l.length+1-1≤8
  omega
 ·omega
theorem doD_ok {d e:Desk} {a:Dd} (hO:deskOk d) (he:doD d a=some e):deskOk e:=by
 unfold doD at he
 split at he
 ·rename_i g
  cases he
  have m:d.past.getD (d.past.length-1) default∈d.past:=getD_mem' (by omega)
  refine ⟨hO.2.2 _ m,?_,fun p hp=>hO.2.2 p (List.mem_of_mem_take hp)⟩
  have:=hO.2.1
  dsimp only
  rw [List.length_take]
  omega
 ·split at he
  ·rename_i g
   cases he
   exact ⟨g.1,pushP_len hO.2.1,fun p hp=>(pushP_mem p hp).elim (hO.2.2 p) fun k=>k ▸ hO.1⟩
  ·cases he
noncomputable def runD (d:Desk):List Dd→Desk × Nat
 |[]=>(d,0)
 |a :: l=>match doD d a with
  |some e=>((runD e l).1,(runD e l).2+1)
  |none=>runD d l
theorem runD_app (d:Desk) (l m:List Dd):runD d (l ++ m)=((runD (runD d l).1 m).1,(runD d l).2+(runD (runD d l).1 m).2):=by
 induction l generalizing d with
 |nil=>exact Prod.ext rfl (Nat.zero_add _).symm
 |cons a l ih =>
  rw [List.cons_append]
  simp only [runD]
  cases h:doD d a with
  |none=>exact ih d
  |some e =>
   simp only [ih e]
   exact Prod.ext rfl (by dsimp only; omega)
theorem runD_one (d:Desk) (a:Dd):runD d [a]=match doD d a with
  |some e=>(e,1)
  |none=>(d,0):=by
 simp only [runD]
theorem runD_some {d e:Desk} {l:List Dd} {a:Dd} (h:doD (runD d l).1 a=some e):runD d (l ++ [a])=(e,(runD d l).2+1):=by
 rw [runD_app,runD_one,h]
theorem runD_none {d:Desk} {l:List Dd} {a:Dd} (h:doD (runD d l).1 a=none):runD d (l ++ [a])=runD d l:=by
 rw [runD_app,runD_one,h]
 rfl
theorem runD_ok {d:Desk} (h:deskOk d):∀ l:List Dd,deskOk (runD d l).1
 |[]=>h
 |a :: l=>by
  simp only [runD]
  cases e:doD d a with
  |none=>exact runD_ok h l
  |some x=>exact runD_ok (doD_ok h e) l
theorem runD_le (d:Desk):∀ l:List Dd,(runD d l).2≤l.length
 |[]=>Nat.le_refl _
 |a :: l=>by
  simp only [runD]
  cases e:doD d a with
  |none=>have:=runD_le d l; simp only [List.length_cons]; omega
  |some x=>have:=runD_le x l; simp only [List.length_cons]; omega
theorem take_step {l:List Dd} {i:Nat} (h:i<l.length):l.take (i+1)=l.take i ++ [l.getD i default]:=take_succ' default h
end Go.Proofs.YtapeebjjljohdaaGreatDoor.Vc
end
section
/- Part UG: texts of places are read: the law. -/
namespace Go.Proofs.YtapeebjjljohdaaGreatDoor.Vc
open Go.Proofs
set_option maxRecDepth 10000
set_option maxHeartbeats 4000000
def C218:=C214
theorem F218:FF 16 C218:=by
 refine fitXE [(47,C214)] (by simp only [List.mem_cons,List.not_mem_nil,or_false]; rintro _ rfl; exact F214) [] (by simp) Tryz.f16 ⟨rfl,by decide +kernel,by decide +kernel⟩ (fun _ _ _ hk h=>h.mono hk) ?_
 rintro s K hs ⟨h,hno⟩
 refine ⟨Nat.le_of_ble_eq_true rfl,?_⟩
 repeat' (first|refine vz ?_|(conv=>whnf); first|with_reducible first|refine Sp.mk ?_ ?_|refine br_d (fun _=>?_) fun _=>?_|refine vM (fun _=>?_) fun _=>?_)
 refine ⟨s,?_,⟨hs⟩,?_⟩
 ·exact wq
 refine ⟨fun x q=>?_,fun q=>?_⟩
 ·have h:=h x q
  obtain ⟨p,bs,rs⟩:=x
  dsimp only [enPl,plC]
  repeat' (first|refine vz ?_|(conv=>whnf); first|with_reducible first|refine Sp.mk ?_ ?_|refine br_d (fun _=>?_) fun _=>?_|refine vM (fun _=>?_) fun _=>?_)
  refine ⟨_,?_,h⟩
  repeat' ((conv=>whnf); first|with_reducible exact True.intro|exact vW|with_reducible refine And.intro ?_ ?_)
 ·have h:=hno q
  dsimp only [enPl,plC]
  repeat' (first|refine vz ?_|(conv=>whnf); first|with_reducible first|refine Sp.mk ?_ ?_|refine br_d (fun _=>?_) fun _=>?_|refine vM (fun _=>?_) fun _=>?_)
  refine ⟨_,?_,h⟩
  repeat' ((conv=>whnf); first|with_reducible exact True.intro|exact vW|with_reducible refine And.intro ?_ ?_)
end Go.Proofs.YtapeebjjljohdaaGreatDoor.Vc
end
section
/- Part UH: read texts are canonical: the law. -/
namespace Go.Proofs.YtapeebjjljohdaaGreatDoor.Vc
open Go.Proofs
set_option maxRecDepth 10000
set_option maxHeartbeats 4000000
structure Rtx where
 r:Rd
 t:ByteArray
theorem st6 {k:Int} (h0:0≤k) (h:k<6) (z:List AV):∃ v:ByteArray,v.size≤4∧[[AV.str ⟨#[]⟩],[.str ⟨#[48]⟩],[.str ⟨#[32]⟩],[.str ⟨#[10]⟩],[.str ⟨#[49]⟩],[.str ⟨#[98,97,99,107]⟩]].getD (0+k.toNat) z=[.str v]:=by
 rcases (show k=0∨k=1∨k=2∨k=3∨k=4∨k=5 by omega) with rfl|rfl|rfl|rfl|rfl|rfl <;> exact ⟨_,by decide,rfl⟩
def C217:GC:=conG (X:=Rtx) (fun x=>[.ptr 0 0,.str x.t]) (fun x=>[rdO x.r.b x.r.p]) (fun x=>x.r.okn 600000000∧x.t.size≤1000000) fun x K=>∀ (u:ByteArray) (p':Int),x.r.p≤p'→p'≤x.r.p+2→u.size≤x.t.size+4→K (.str u) [rdO x.r.b p']
theorem F217:GG 60 C217:=by
 refine fitG [] (by simp) [(38,C52)] (by simp only [List.mem_cons,List.not_mem_nil,or_false]; rintro _ rfl <;> first|exact F52) Tryz.f60 ⟨rfl,by decide +kernel,by decide +kernel⟩ (by intro x K K2 hk h; (try dsimp only at h ⊢); intros; apply hk; first|exact h|(apply h <;> assumption)) ?_
 rintro ⟨⟨b,p⟩,t⟩ K ⟨⟨h1,h2,h3,h4⟩,h5⟩ h
 refine ⟨Nat.le_of_ble_eq_true rfl,?_⟩
 dsimp only at h h1 h2 h3 h4 h5 ⊢
 repeat' (first|refine vz ?_|(conv=>whnf); first|with_reducible first|refine Sp.mk ?_ ?_|refine br_d (fun _=>?_) fun _=>?_|refine vM (fun _=>?_) fun _=>?_)
 ·refine ⟨_,_,[some 0],[],rfl,rfl,?_,?_,h ⟨#[10]⟩ p (by omega) (by omega) (by show 1≤_; omega)⟩
  ·exact wq
  ·exact wq
 rename_i ht
 refine ⟨_,_,[0],[],rfl,?_,?_,(⟨b,p⟩,t.size),rfl,rfl,⟨⟨h1,h2,?_,?_⟩,?_⟩,?_⟩
 ·repeat' ((conv=>whnf); first|with_reducible exact True.intro|exact vW|with_reducible refine And.intro ?_ ?_)
  try exact Chk.mk (by rw [pw_sh (by assumption)])
 ·exact wq
 ·dsimp only; omega
 ·dsimp only; omega
 ·unfold i64r; dsimp only; omega
 intro k p1 a0 a1 a2
 dsimp only at a0 a1 a2
 repeat' (first|refine vz ?_|(conv=>whnf); first|with_reducible first|refine Sp.mk ?_ ?_|refine br_d (fun _=>?_) fun _=>?_|refine vM (fun _=>?_) fun _=>?_)
 refine Dr.mk ⟨(.rd 0 (.rd 1 (.rd 2 (.rd 4 (.rd 9 (.rd 10 (.rd 11 (.rd 12 (.ef 3 (.ef 5 (.rd 6 (.rd 7 (.rd 8 (.rd 13 (.rd 14 .dn))))) .no) (.ef 5 (.ef 3 (.rd 6 (.rd 7 (.rd 8 (.rd 13 (.rd 14 .dn))))) .no) .no)))))))))),by decide +kernel,?_⟩
 repeat' (first|refine vz ?_|(conv=>whnf); first|with_reducible first|refine Sp.mk ?_ ?_|refine br_d (fun _=>?_) fun _=>?_|refine vM (fun _=>?_) fun _=>?_)
 all_goals
  refine ⟨_,_,[0],[],rfl,?_,?_,(⟨b,p1⟩,6),rfl,rfl,⟨⟨h1,h2,?_,?_⟩,?_⟩,?_⟩
  ·repeat' ((conv=>whnf); first|with_reducible exact True.intro|exact vW|with_reducible refine And.intro ?_ ?_)
   try exact Chk.mk (by rw [pw_sh (by assumption)])
  ·exact wq
  ·dsimp only; omega
  ·dsimp only; omega
  ·unfold i64r; dsimp only; omega
  intro j p2 c0 c1 c2
  dsimp only at c0 c1 c2
  obtain ⟨v,v1,hv⟩:=st6 (c1 (by decide)).1 (c1 (by decide)).2 (lookT TT 9).z
  have a3:=a1 (by omega)
  have e1:(t.extract (Int.toNat 0) k.toNat).size≤k.toNat:=by rw [ByteArray.size_extract]; have:=Nat.min_le_left k.toNat t.size; show min k.toNat t.size-0≤_; omega
  have e2:(t.extract (k+1).toNat (t.size:Int).toNat).size≤t.size-(k+1).toNat:=by rw [ByteArray.size_extract]; exact Nat.sub_le_sub_right (Nat.min_le_right _ _) _
  have e3:(t.extract (Int.toNat 0) k.toNat ++ v).size≤k.toNat+4:=by rw [ByteArray.size_append]; omega
  have e4:(t.extract (Int.toNat 0) k.toNat ++ v ++ t.extract (k+1).toNat (t.size:Int).toNat).size≤t.size+4:=by rw [ByteArray.size_append]; omega
  repeat' (first|refine vz ?_|(conv=>whnf); first|with_reducible first|refine Sp.mk ?_ ?_|refine br_d (fun _=>?_) fun _=>?_|refine vM (fun _=>?_) fun _=>?_)
 all_goals try
  dsimp only [List.drop]
  rw [hv]
  repeat' (first|refine vz ?_|(conv=>whnf); first|with_reducible first|refine Sp.mk ?_ ?_|refine br_d (fun _=>?_) fun _=>?_|refine vM (fun _=>?_) fun _=>?_)
 all_goals
  refine ⟨_,_,[some 0],[],rfl,rfl,?_,?_,h _ p2 (by omega) (by omega) e4⟩
  ·exact wq
  ·exact wq
theorem no_empty (h:House):bad h ⟨#[]⟩=true:=by
 unfold bad rdT
 rfl
theorem I_of {x:Place} (h:placeOk x):placeI x:=by
 have hb:=placeOk_small h
 exact ⟨⟨⟨⟨by have:=hb.2.1; show -9223372036854775808≤x.p; omega,by have:=hb.2.2.1; show x.p≤9223372036854775807; omega⟩,fun b q=>by have:=hb.1.2 b q; exact ⟨by omega,by omega⟩⟩,by have:=hb.1.1; show x.bs.length<_; omega⟩,by have:=h.2.1.2; omega,fun r q=>by have:=hb.2.2.2 r q; omega⟩
end Go.Proofs.YtapeebjjljohdaaGreatDoor.Vc
end
section
/- Part YB: stores that are opened, acted at and saved: the plain law. -/
namespace Go.Proofs.YtapeebjjljohdaaGreatDoor.Vc
open Go.Proofs
set_option maxRecDepth 10000
set_option maxHeartbeats 4000000
open Classical in
noncomputable def plOf (s:ByteArray):Place:=if h:∃ x,isPt s x then Classical.choose h else default
theorem plOf_of {s:ByteArray} {x:Place} (h:isPt s x):plOf s=x:=by
 unfold plOf
 have hx:∃ x,isPt s x:=⟨x,h⟩
 rw [dif_pos hx]
 exact isPt_one (Classical.choose_spec hx) h
theorem plOf_is {s:Store} (h:isSt s):isPt s.saved (plOf s.saved):=by
 obtain ⟨x,hx⟩:=h.1
 rw [plOf_of hx]
 exact hx
noncomputable def opD (s:Store):Desk:=(runD ⟨plOf s.saved,[]⟩ (jr s.log)).1
theorem desk0_ok {x:Place} (h:placeOk x):deskOk ⟨x,[]⟩:=⟨h,(by decide:0≤8),fun _ q=>by cases q⟩
theorem opD_ok {s:Store} (h:isSt s):deskOk (opD s):=runD_ok (desk0_ok (plOf_is h).1) _
open Classical in
noncomputable def openS (s:Store):Option Desk:=if isSt s then some (opD s) else none
structure canAct (s:Store) (a:Dd):Prop where
 all:jn s.log=s.log.size
 can:(doD (opD s) a).isSome=true
 ok:okDd a
 fit:s.log.size+(deedT a).size+1≤1000
def addL (s:Store) (a:Dd):Store:=⟨s.saved,s.log ++ (deedT a ++ ⟨#[10]⟩),s.sure⟩
open Classical in
noncomputable def actS (s:Store) (a:Dd):Option Store:=if isSt s∧canAct s a then some (addL s a) else none
open Classical in
noncomputable def actR (s:Store) (a:Dd):Store:=if isSt s then (if canAct s a then addL s a else s) else default
def savedD (d:Desk):Store:=⟨plT d.now,⟨#[]⟩,0⟩
open Classical in
noncomputable def saveS (s:Store):Option Store:=if isSt s then some (savedD (opD s)) else none
theorem jr_nil:jr ⟨#[]⟩=[]∧jn ⟨#[]⟩=0:=jr_of (l:=[]) (r:=[]) ⟨fun _ h=>(by cases h),rfl,fun _ _ _=>no_line⟩
theorem isPt_new {x:Place} (h:placeOk x):isPt (plT x) x:=⟨h,rfl⟩
theorem isSt_new {x:Place} (h:placeOk x):isSt ⟨plT x,⟨#[]⟩,0⟩:=⟨⟨x,isPt_new h⟩,(by decide:0≤1000),Int.le_refl 0,Int.le_refl 0⟩
theorem opD_new {x:Place} (h:placeOk x):opD ⟨plT x,⟨#[]⟩,0⟩=⟨x,[]⟩:=by
 unfold opD
 dsimp only
 rw [jr_nil.1,plOf_of (isPt_new h)]
 rfl
theorem ext_take0 {s:ByteArray} {n:Nat}:(s.extract 0 n).data.toList=s.data.toList.take n:=by
 rw [ext_list,List.drop_zero,Nat.sub_zero]
theorem jr_cut (s:ByteArray):jr (s.extract 0 (jn s))=jr s∧jn (s.extract 0 (jn s))=jn s∧(s.extract 0 (jn s)).size=jn s:=by
 obtain ⟨r,hr⟩:=jr_spec s
 have e:(s.extract 0 (jn s)).data.toList=jl (jr s):=by
  rw [ext_take0,hr.eq]
  exact List.take_left' rfl
 have h:=isJr_jl hr.ok
 rw [← e] at h
 obtain ⟨g1,g2⟩:=jr_of h
 refine ⟨g1,g2,?_⟩
 rw [ByteArray.size_extract]
 have:=jn_le s
 omega
theorem jr_whole {s:ByteArray} (h:jn s=s.size):s.data.toList=jl (jr s):=by
 obtain ⟨r,hr⟩:=jr_spec s
 have hl:=congrArg List.length hr.eq
 rw [List.length_append,Array.length_toList] at hl
 have h':(jl (jr s)).length=s.data.size:=h
 have hr0:r=[]:=List.eq_nil_of_length_eq_zero (by omega)
 rw [hr0] at hr
 exact hr.eq.trans (List.append_nil _)
theorem jr_add {s:ByteArray} {a:Dd} (h:jn s=s.size) (ha:okDd a):jr (s ++ (deedT a ++ ⟨#[10]⟩))=jr s ++ [a]∧jn (s ++ (deedT a ++ ⟨#[10]⟩))=(s ++ (deedT a ++ ⟨#[10]⟩)).size:=by
 have hok:∀ x∈jr s ++ [a],okDd x:=fun x hx=>(List.mem_append.1 hx).elim (fun q=>(jr_mem q).1) fun q=>by rw [List.mem_singleton.1 q]; exact ha
 have e:(s ++ (deedT a ++ ⟨#[10]⟩)).data.toList=jl (jr s ++ [a]):=by
  rw [jl_app,jl_one,ByteArray.data_append,ByteArray.data_append,Array.toList_append,Array.toList_append,jr_whole h]
  rfl
 have hj:=isJr_jl hok
 rw [← e] at hj
 obtain ⟨g1,g2⟩:=jr_of hj
 refine ⟨g1,g2.trans ?_⟩
 rw [← e,Array.length_toList]
 rfl
theorem add_size (s:Store) (a:Dd):(addL s a).log.size=s.log.size+(deedT a).size+1:=by
 unfold addL
 dsimp only
 rw [ByteArray.size_append,ByteArray.size_append]
 show _+(_+1)=_
 omega
theorem isSt_add {s:Store} {a:Dd} (h:isSt s) (hc:canAct s a):isSt (addL s a):=by
 have:=add_size s a
 have:=hc.fit
 have:=h.2.2
 exact ⟨h.1,by omega,this.1,by show s.sure≤_; omega⟩
theorem opD_add {s:Store} {a:Dd} {e:Desk} (hc:canAct s a) (he:doD (opD s) a=some e):opD (addL s a)=e:=by
 unfold opD addL
 dsimp only
 rw [(jr_add hc.all hc.ok).1,runD_some he]
theorem actR_yes {s:Store} {a:Dd} (h:isSt s) (hc:canAct s a):actR s a=addL s a:=by
 unfold actR
 rw [if_pos h,if_pos hc]
theorem actR_no {s:Store} {a:Dd} (h:isSt s) (hc:¬ canAct s a):actR s a=s:=by
 unfold actR
 rw [if_pos h,if_neg hc]
theorem actS_yes {s:Store} {a:Dd} (h:isSt s) (hc:canAct s a):actS s a=some (addL s a):=if_pos ⟨h,hc⟩
theorem actS_no {s:Store} {a:Dd} (hc:¬ (isSt s∧canAct s a)):actS s a=none:=if_neg hc
noncomputable def mended (s:Store):Store:=⟨s.saved,s.log.extract 0 (jn s.log),if (jn s.log:Int)<s.sure then (jn s.log:Int) else s.sure⟩
theorem mendS_yes {s:Store} (h:isSt s):mendS s=some (mended s):=if_pos h
theorem mendS_no {s:Store} (h:¬ isSt s):mendS s=none:=if_neg h
theorem isSt_mended {s:Store} (h:isSt s):isSt (mended s):=by
 have h1:=(jr_cut s.log).2.2
 have h2:=jn_le s.log
 have h3:=h.2.1
 have h4:=h.2.2
 refine ⟨h.1,?_,?_,?_⟩
 ·show (s.log.extract 0 (jn s.log)).size≤1000
  omega
 ·show 0≤if (jn s.log:Int)<s.sure then (jn s.log:Int) else s.sure
  split <;> omega
 ·show (if (jn s.log:Int)<s.sure then (jn s.log:Int) else s.sure)≤(s.log.extract 0 (jn s.log)).size
  rw [h1]
  split <;> omega
theorem mended_all (s:Store):jn (mended s).log=(mended s).log.size:=by
 have h:=jr_cut s.log
 exact h.2.1.trans h.2.2.symm
theorem isSt_sync {s:Store} (h:isSt s):isSt ⟨s.saved,s.log,s.log.size⟩:=⟨h.1,h.2.1,by show (0:Int)≤(s.log.size:Int); omega,Int.le_refl _⟩
theorem opD_sync (s:Store) (n:Int):opD ⟨s.saved,s.log,n⟩=opD s:=rfl
end Go.Proofs.YtapeebjjljohdaaGreatDoor.Vc
end
section
/- Part ZT0: duals (with swings). -/
end
section
/- Part YL: laws on stores: plain. -/
namespace Go.Proofs.YtapeebjjljohdaaGreatDoor.Vc
open Go.Proofs
set_option maxRecDepth 10000
set_option maxHeartbeats 4000000
/-! ### Texts of terms are short -/
theorem join2_len {k:Int} {a b:Pt}:(join2 k a b).s.size≤a.s.size+b.s.size+5:=by
 have w:∀ (s:ByteArray) (o:Bool),(wrapT s o).size≤s.size+2:=fun s o=>by
  unfold wrapT
  split
  ·rw [ByteArray.size_append,ByteArray.size_append]; show 1+s.size+1≤_; omega
  ·omega
 unfold join2
 split
 ·have:=w b.s b.o
  dsimp only
  rw [ByteArray.size_append,ByteArray.size_append]
  show a.s.size+1+_≤_
  omega
 ·have:=w b.s (decide (b.n > 1))
  have:=w a.s a.o
  dsimp only
  rw [ByteArray.size_append,ByteArray.size_append]
  show _+1+_≤_
  omega
theorem tr_size {bs:List Int} (hb:bodies bs) {t:List Mark} (h:Tr bs t):(partT t).s.size+1≤4*t.length:=by
 induction h with
 |leaf m hk h =>
  rw [partT_leaf hk]
  obtain ⟨_,_,g3,g4⟩:=leaf_in hb hk h
  have:=num_size (n:=m.need) (by omega) (by omega)
  show (letter m.at_ ++ num m.need).size+1≤4*1
  rw [ByteArray.size_append]
  show 1+_+1≤_
  omega
 |node l r k hk h1 h2 g1 g2 =>
  rw [partT_node h1.one h2.one (by dsimp only; omega)]
  have:=join2_len (k:=k) (a:=partT l) (b:=partT r)
  simp only [List.length_append,List.length_cons,List.length_nil]
  omega
theorem textT_size {h:House} {t:List Mark} (ht:termOk h t):(textT t).size≤35:=by
 have h1:=tr_size (bodies_of ht.1) (Tr.of ht.2.2)
 have h2:=ht.2.1
 unfold textT
 omega
/-! ### The dual of the first rule can be put in its place, if it is another -/
/-! ### Logs that break off -/
theorem jr_pre (s:ByteArray) (n:Nat):jr (s.extract 0 n)=(jr s).take (jr (s.extract 0 n)).length∧(jr (s.extract 0 n)).length≤(jr s).length∧jn (s.extract 0 n)≤n:=by
 obtain ⟨r,hr⟩:=jr_spec s
 obtain ⟨t,ht⟩:=jr_spec (s.extract 0 n)
 rw [ext_take0] at ht
 exact isJr_take hr ht
end Go.Proofs.YtapeebjjljohdaaGreatDoor.Vc
end
section
/- Part QC: questions about a place (plain). -/
namespace Go.Proofs.YtapeebjjljohdaaGreatDoor.Vc
set_option maxRecDepth 10000
set_option maxHeartbeats 4000000
abbrev wLeast:ByteArray:=⟨#[108,101,97,115,116]⟩
abbrev wCount:ByteArray:=⟨#[99,111,117,110,116]⟩
abbrev wNeeded:ByteArray:=⟨#[110,101,101,100,101,100]⟩
abbrev wIdle:ByteArray:=⟨#[105,100,108,101]⟩
abbrev wDual:ByteArray:=⟨#[100,117,97,108]⟩
abbrev wDecisive:ByteArray:=⟨#[100,101,99,105,115,105,118,101]⟩
abbrev wClash:ByteArray:=⟨#[99,108,97,115,104]⟩
abbrev wConsent:ByteArray:=⟨#[99,111,110,115,101,110,116]⟩
abbrev wSwings:ByteArray:=⟨#[115,119,105,110,103,115]⟩
abbrev wPivots:ByteArray:=⟨#[112,105,118,111,116,115]⟩
abbrev wWhat:ByteArray:=⟨#[119,104,97,116]⟩
abbrev wNone:ByteArray:=⟨#[110,111,110,101]⟩
abbrev wYes:ByteArray:=⟨#[121,101,115]⟩
abbrev wNo:ByteArray:=⟨#[110,111]⟩
abbrev wPlace:ByteArray:=⟨#[112,108,97,99,101]⟩
instance decMemB (w:ByteArray):(l:List ByteArray)→Decidable (w∈l)
 |[]=>isFalse (by simp)
 |v :: r=>if h:w=v then isTrue (by simp [h]) else match decMemB w r with
  |isTrue g=>isTrue (by simp [g])
  |isFalse g=>isFalse (by simp [h,g])
def onesW:List ByteArray:=[wLeast,wCount,wNeeded,wIdle,wDual,wDecisive,wClash]
def twosW:List ByteArray:=[wConsent,wSwings,wPivots]
def yn (b:Bool):ByteArray:=if b=true then wYes else wNo
def numN (n:Int):ByteArray:=if n<0 then wNone else num n
def askO (p:Int) (bs:List Int) (t:List Mark) (w:ByteArray):ByteArray :=
 if w=wLeast then listT (leastF (sayl bs t (pw p).toNat) (pw p).toNat)
 else if w=wCount then num (sayl bs t (pw p).toNat).length
 else if w=wNeeded then num (needF p bs t p.toNat)
 else if w=wIdle then num (idleF bs t (pw p).toNat p.toNat)
 else if w=wDual then textT (dualT bs t)
 else if w=wDecisive then yn (decB p bs t (pw p).toNat)
 else yn (claB p bs t (pw p).toNat)
def askT (p:Int) (bs:List Int) (t:List Mark) (w:ByteArray) (n:Int):ByteArray :=
 if w=wConsent then yn (decide (crowd p n) && says bs n t)
 else if w=wSwings then numN (swingsOf ⟨⟨p,bs⟩,t,n⟩)
 else numN (pivotsOf ⟨⟨p,bs⟩,t,n⟩)
def termR (x:Place) (i:Nat):List Mark:=(rdT 49 x.h (x.rules.getD i ⟨#[]⟩)).getD []
def askOne (x:Place) (w:ByteArray) (n:Int):ByteArray :=
 if w∈onesW then (if n<x.rules.length then askO x.p x.bs (termR x n.toNat) w else wNone) else wWhat
def askTwo (x:Place) (w:ByteArray) (n m:Int):ByteArray :=
 if w∈twosW then (if n<x.rules.length then askT x.p x.bs (termR x n.toNat) w m else wNone) else wWhat
def askL (x:Place) (L:List ByteArray):ByteArray :=
 if L.length=2∧0≤digV (L.getD 1 ⟨#[]⟩) then askOne x (L.getD 0 ⟨#[]⟩) (digV (L.getD 1 ⟨#[]⟩))
 else if L.length=3∧0≤digV (L.getD 1 ⟨#[]⟩)∧0≤digV (L.getD 2 ⟨#[]⟩) then askTwo x (L.getD 0 ⟨#[]⟩) (digV (L.getD 1 ⟨#[]⟩)) (digV (L.getD 2 ⟨#[]⟩))
 else wWhat
def askD (x:Place) (s:ByteArray):ByteArray:=if s=wPlace then plT x else askL x (cutB s 32)
/-! ### No answer is empty -/
theorem num_ne (n:Nat):num (n:Int)≠⟨#[]⟩:=fun e=>by
 have h:=num_list n
 rw [e] at h
 have:=dec_pos n
 rw [← h] at this
 exact absurd this (by decide)
theorem num_ne' {n:Int} (h:0≤n):num n≠⟨#[]⟩:=by
 have:=num_ne n.toNat
 rwa [Int.toNat_of_nonneg h] at this
theorem ba_ne {x:ByteArray}:x≠⟨#[]⟩ ↔ 0<x.size:=by
 constructor
 ·intro h
  apply Nat.pos_of_ne_zero
  intro e
  apply h
  apply ByteArray.ext
  exact Array.eq_empty_of_size_eq_zero e
 ·intro h e
  rw [e] at h
  exact absurd h (by decide)
theorem joinB_ne {x:ByteArray} {l:List ByteArray} {sep:ByteArray} (h:x≠⟨#[]⟩):joinB (x :: l) sep≠⟨#[]⟩:=by
 have key:∀ k (l:List ByteArray),l.length=k→0<(joinB (x :: l) sep).size:=by
  intro k
  induction k with
  |zero=>intro l hl; have:l=[]:=List.length_eq_zero_iff.1 hl; subst this; rw [joinB_one]; exact ba_ne.1 h
  |succ k ih =>
   intro l hl
   obtain ⟨l',b,rfl⟩:∃ l' b,l=l' ++ [b]:=⟨l.dropLast,l.getLast (by intro e; rw [e] at hl; simp at hl),(List.dropLast_concat_getLast _).symm⟩
   have h1:=ih l' (by rw [List.length_append] at hl; simpa using hl)
   have:=joinB_app (l:=x :: l') (x:=b) (sep:=sep) (List.cons_ne_nil _ _)
   rw [← List.cons_append,this,ByteArray.size_append,ByteArray.size_append]
   omega
 exact ba_ne.2 (key l.length l rfl)
theorem yn_ne (b:Bool):yn b≠⟨#[]⟩:=by
 unfold yn
 split <;> exact ba_ne.2 (by decide)
theorem numN_ne {n:Int}:numN n≠⟨#[]⟩:=by
 unfold numN
 split
 ·exact ba_ne.2 (by decide)
 ·exact num_ne' (by omega)
theorem textT_ne {h:House} {t:List Mark} (ht:termOk h t):textT t≠⟨#[]⟩:=fun e=>by
 have hb:bad h (textT t)=false:=by
  unfold bad
  rw [(rdT_iff (by decide)).2 ⟨Nat.le_trans (textT_size ht) (by decide),ht,rfl⟩]
  rfl
 rw [e,no_empty] at hb
 cases hb
theorem askT_ne (p:Int) (bs:List Int) (t:List Mark) (w:ByteArray) (n:Int):askT p bs t w n≠⟨#[]⟩:=by
 unfold askT
 split
 ·exact yn_ne _
 ·split <;> exact numN_ne
theorem askO_ne {p:Int} {bs:List Int} {t:List Mark} (ht:termOk ⟨p,bs⟩ t) (w:ByteArray):askO p bs t w≠⟨#[]⟩:=by
 unfold askO
 split
 ·have:=least_some ht
  cases hl:leastF (sayl bs t (pw p).toNat) (pw p).toNat with
  |nil=>exact absurd hl this
  |cons c r =>
   have hc:c∈leastF (sayl bs t (pw p).toNat) (pw p).toNat:=by rw [hl]; exact List.mem_cons_self
   exact joinB_ne (num_ne' (mem_cl.1 hc).1.1)
 ·split
  ·exact num_ne _
  ·split
   ·exact num_ne' (need_lt p.toNat (by have:p≤6:=ht.1.1.2; omega)).1
   ·split
    ·exact num_ne' (idle_lt _ _ _ p.toNat (by have:p≤6:=ht.1.1.2; omega)).1
    ·split
     ·exact textT_ne (termOk_dual ht)
     ·split <;> exact yn_ne _
theorem askD_ne {x:Place} (hx:placeOk x) (hr:∀ i,i<x.rules.length→termOk x.h (termR x i)) (s:ByteArray):askD x s≠⟨#[]⟩:=by
 have hw:wWhat≠⟨#[]⟩:=ba_ne.2 (by decide)
 have hn:wNone≠⟨#[]⟩:=ba_ne.2 (by decide)
 unfold askD
 split
 ·exact joinB_ne (num_ne' (by have:1≤x.p:=hx.1.1.1; omega))
 ·unfold askL
  split
  ·rename_i q
   unfold askOne
   split
   ·split
    ·exact askO_ne (hr _ (by omega)) _
    ·exact hn
   ·exact hw
  ·split
   ·unfold askTwo
    split
    ·split
     ·exact askT_ne _ _ _ _ _
     ·exact hn
    ·exact hw
   ·exact hw
end Go.Proofs.YtapeebjjljohdaaGreatDoor.Vc
end
section
/- Part QE: lines that are said to a desk (plain). -/
namespace Go.Proofs.YtapeebjjljohdaaGreatDoor.Vc
set_option maxRecDepth 10000
set_option maxHeartbeats 4000000
abbrev wOk:ByteArray:=⟨#[111,107]⟩
abbrev wNot:ByteArray:=⟨#[110,111,116]⟩
open Classical in
noncomputable def lineD (d:Desk) (s:ByteArray):Desk × ByteArray :=
 if h:∃ a,isDd s a then ((doD d (Classical.choose h)).getD d,if (doD d (Classical.choose h)).isSome then wOk else wNot) else (d,askD d.now s)
theorem lineD_deed {d:Desk} {s:ByteArray} {a:Dd} (h:isDd s a):lineD d s=((doD d a).getD d,if (doD d a).isSome then wOk else wNot):=by
 have hx:∃ a,isDd s a:=⟨a,h⟩
 unfold lineD
 rw [dif_pos hx,isDd_one (Classical.choose_spec hx) h]
theorem lineD_ask {d:Desk} {s:ByteArray} (h:¬ ∃ a,isDd s a):lineD d s=(d,askD d.now s):=by
 unfold lineD
 rw [dif_neg h]
theorem lineD_ok {d:Desk} {s:ByteArray} (h:deskOk d):deskOk (lineD d s).1:=by
 by_cases hx:∃ a,isDd s a
 ·obtain ⟨a,ha⟩:=hx
  rw [lineD_deed ha]
  cases hd:doD d a with
  |none=>exact h
  |some e=>exact doD_ok h hd
 ·rw [lineD_ask hx]
  exact h
theorem lineD_same {d:Desk} {s:ByteArray}:(lineD d s).2=wOk∨(lineD d s).1=d:=by
 by_cases hx:∃ a,isDd s a
 ·obtain ⟨a,ha⟩:=hx
  rw [lineD_deed ha]
  cases hd:doD d a with
  |none=>exact .inr rfl
  |some e=>exact .inl rfl
 ·rw [lineD_ask hx]
  exact .inr rfl
theorem termR_ok {x:Place} (hx:placeOk x) (i:Nat) (hi:i<x.rules.length):rdT 49 x.h (x.rules.getD i ⟨#[]⟩)=some (termR x i)∧termOk x.h (termR x i):=by
 obtain ⟨t,ht⟩:=bad_term (hx.2.2 _ (getD_mem' (l:=x.rules) (i:=i) (d:=⟨#[]⟩) hi))
 have e:termR x i=t:=by unfold termR; rw [ht]; rfl
 rw [e]
 exact ⟨ht,((rdT_iff (by decide)).1 ht).2.1⟩
theorem lineD_ne {d:Desk} {s:ByteArray} (h:deskOk d):(lineD d s).2≠⟨#[]⟩:=by
 by_cases hx:∃ a,isDd s a
 ·obtain ⟨a,ha⟩:=hx
  rw [lineD_deed ha]
  dsimp only
  split <;> exact ba_ne.2 (by decide)
 ·rw [lineD_ask hx]
  exact askD_ne h.1 (fun i hi=>(termR_ok h.1 i hi).2) s
theorem cut_nil:cutB ⟨#[]⟩ 32=[⟨#[]⟩]:=by rfl
theorem line_nil {d:Desk}:lineD d ⟨#[]⟩=(d,wWhat):=by
 rw [lineD_ask fun ⟨a,ha⟩=>isDd_ne ha rfl]
 unfold askD askL
 rw [if_neg (by intro e; exact absurd (congrArg ByteArray.size e) (by decide)),cut_nil,if_neg (fun q=>absurd q.1 (by decide)),if_neg (fun q=>absurd q.1 (by decide))]
theorem not_deed_place:¬ ∃ a,isDd wPlace a:=by
 rintro ⟨a,ha⟩
 have h:=isDd_cut ha
 have e:cutB wPlace 32=[wPlace]:=by rfl
 rw [e] at h
 injection h with h1 h2
 unfold kindB at h1
 split at h1
 ·exact absurd (congrArg ByteArray.size h1) (by decide)
 ·split at h1
  ·exact absurd (congrArg ByteArray.size h1) (by decide)
  ·split at h1
   ·exact absurd h1 (by decide)
   ·split at h1
    ·exact absurd (congrArg ByteArray.size h1) (by decide)
    ·exact absurd (congrArg ByteArray.size h1) (by decide)
theorem line_place {d:Desk}:lineD d wPlace=(d,plT d.now):=by
 rw [lineD_ask not_deed_place]
 unfold askD
 rw [if_pos rfl]
noncomputable def sayF (x:Desk × List ByteArray) (s:ByteArray):Desk × List ByteArray:=((lineD x.1 s).1,x.2 ++ [(lineD x.1 s).2])
noncomputable def sayD (d:Desk) (l:List ByteArray):Desk × List ByteArray:=l.foldl sayF (d,[])
theorem sayD_snoc (d:Desk) (l:List ByteArray) (s:ByteArray):sayD d (l ++ [s])=sayF (sayD d l) s:=by
 unfold sayD
 rw [List.foldl_append]
 rfl
theorem sayD_take {d:Desk} {l:List ByteArray} {i:Nat} (h:i<l.length):sayD d (l.take (i+1))=sayF (sayD d (l.take i)) (l.getD i ⟨#[]⟩):=by
 rw [take_succ' ⟨#[]⟩ h,sayD_snoc]
theorem foldl_say (m:List ByteArray):∀ (e:Desk) (A:List ByteArray),m.foldl sayF (e,A)=((sayD e m).1,A ++ (sayD e m).2):=by
 induction m with
 |nil=>intro e A; show (e,A)=(e,A ++ []); rw [List.append_nil]
 |cons s r ih =>
  intro e A
  show r.foldl sayF ((lineD e s).1,A ++ [(lineD e s).2])=((r.foldl sayF ((lineD e s).1,[] ++ [(lineD e s).2])).1,A ++ (r.foldl sayF ((lineD e s).1,[] ++ [(lineD e s).2])).2)
  rw [ih,ih]
  simp only [List.nil_append,List.append_assoc]
theorem sayD_app (d:Desk) (l m:List ByteArray):sayD d (l ++ m)=((sayD (sayD d l).1 m).1,(sayD d l).2 ++ (sayD (sayD d l).1 m).2):=by
 have:sayD d (l ++ m)=m.foldl sayF (sayD d l):=by unfold sayD; rw [List.foldl_append]
 rw [this]
 exact foldl_say m (sayD d l).1 (sayD d l).2
theorem sayD_ok {d:Desk} (h:deskOk d):∀ l:List ByteArray,deskOk (sayD d l).1∧(∀ x∈(sayD d l).2,x≠⟨#[]⟩)∧(sayD d l).2.length=l.length:=by
 intro l
 obtain ⟨n,hn⟩:∃ n,l.length=n:=⟨_,rfl⟩
 induction n generalizing l with
 |zero =>
  have:l=[]:=List.length_eq_zero_iff.1 hn
  subst this
  exact ⟨h,fun x hx=>(by cases hx),rfl⟩
 |succ n ih =>
  obtain ⟨l',b,rfl⟩:∃ l' b,l=l' ++ [b]:=⟨l.dropLast,l.getLast (by intro e; rw [e] at hn; simp at hn),(List.dropLast_concat_getLast _).symm⟩
  rw [List.length_append] at hn
  obtain ⟨h1,h2,h3⟩:=ih l' (by simpa using hn)
  rw [sayD_snoc]
  refine ⟨lineD_ok h1,fun x hx=>?_,?_⟩
  ·rcases List.mem_append.1 hx with hx|hx
   ·exact h2 x hx
   ·rw [List.mem_singleton.1 hx]
    exact lineD_ne h1
  ·show ((sayD d l').2 ++ _).length=_
   rw [List.length_append,List.length_append,h3]
   rfl
end Go.Proofs.YtapeebjjljohdaaGreatDoor.Vc
end
section
/- Part XI: slices.Equal, slices.Delete, and what an amendment asks. -/
namespace Go.Proofs.YtapeebjjljohdaaGreatDoor.Vc
open Go.Proofs Go.RowKit Go.Lib Go.Sort
set_option maxRecDepth 10000
set_option maxHeartbeats 4000000
/-! ### slices.Equal -/
theorem eq_of_getD {α:Type} [Inhabited α] {d:α} {l m:List α} (hl:l.length=m.length) (h:∀ i,i<l.length→l.getD i d=m.getD i d):l=m:=by
 apply List.ext_getElem hl
 intro i h1 h2
 have:=h i h1
 rwa [List.getD_eq_getElem?_getD,List.getD_eq_getElem?_getD,List.getElem?_eq_getElem h1,List.getElem?_eq_getElem h2] at this
def C268:List AV→(AV→Prop)→Prop:=con (X:=List Int × List Int) (fun x=>[slI x.1,slI x.2]) (fun x=>x.1.length<9223372036854775808) fun x K=>K (.bool (decide (x.1=x.2)))
theorem F268:FF 142 C268:=by
 refine fitE [] (by simp) Tryz.f142 ⟨rfl,by decide +kernel,by decide +kernel⟩ (fun _ _ _ hk h=>hk _ h) ?_
 rintro ⟨l,m⟩ K h1 h
 refine ⟨Nat.le_of_ble_eq_true rfl,?_⟩
 dsimp only at h h1 ⊢
 by_cases hlen:l.length=m.length
 ·repeat' (first|refine vz ?_|(conv=>whnf); first|with_reducible first|refine Sp.mk ?_ ?_|refine br_d (fun _=>?_) fun _=>?_|refine vM (fun _=>?_) fun _=>?_)
  refine Lp.mk ⟨Nat,fun i=>[(0,slI l),(1,slI m),(12,.int .i64 l.length),(13,.int .i64 i)],fun _=>[],fun i=>i≤l.length∧∀ j,j<i→l.getD j 0=m.getD j 0,fun i=>l.length-i,⟨0,⟨Nat.zero_le _,fun j hj=>absurd hj (Nat.not_lt_zero _)⟩,⟨⟨[],[],rfl,rfl,?_,?_⟩⟩⟩,?_⟩
  ·exact wq
  ·exact wq
  rintro i ⟨i1,i2⟩
  dsimp only
  repeat' (first|refine vz ?_|(conv=>whnf); first|with_reducible first|refine Sp.mk ?_ ?_|refine br_d (fun _=>?_) fun _=>?_|refine vM (fun _=>?_) fun _=>?_)
  ·rename_i hi
   refine Dr.mk ⟨(.rd 0 (.rd 1 (.rd 2 (.rd 3 (.rd 4 (.rd 5 (.rd 6 (.rd 7 (.rd 8 .dn))))))))),by decide +kernel,?_⟩
   repeat' (first|refine vz ?_|(conv=>whnf); first|with_reducible first|refine Sp.mk ?_ ?_|refine br_d (fun _=>?_) fun _=>?_|refine vM (fun _=>?_) fun _=>?_)
   ·rename_i he
    replace he:l.getD i 0=m.getD i 0:=he
    refine ⟨i+1,⟨by omega,fun j hj=>?_⟩,by omega,⟨⟨[],[],rfl,rfl,?_,?_⟩⟩⟩
    ·by_cases e:j=i
     ·subst e; exact he
     ·exact i2 j (by omega)
    ·exact wq
    ·exact wq
   ·rename_i he
    replace he:¬ l.getD i 0=m.getD i 0:=he
    exact yesF h fun q=>he (by rw [q])
  ·rename_i hi
   exact yesT h (eq_of_getD (d:=0) hlen fun j hj=>i2 j (by omega))
 ·repeat' (first|refine vz ?_|(conv=>whnf); first|with_reducible first|refine Sp.mk ?_ ?_|refine br_d (fun _=>?_) fun _=>?_|refine vM (fun _=>?_) fun _=>?_)
  exact yesF h fun q=>hlen (by rw [q])
def C269:List AV→(AV→Prop)→Prop:=con (X:=List ByteArray × List ByteArray) (fun x=>[slS x.1,slS x.2]) (fun x=>x.1.length<9223372036854775808) fun x K=>K (.bool (decide (x.1=x.2)))
theorem F269:FF 143 C269:=by
 refine fitE [] (by simp) Tryz.f143 ⟨rfl,by decide +kernel,by decide +kernel⟩ (fun _ _ _ hk h=>hk _ h) ?_
 rintro ⟨l,m⟩ K h1 h
 refine ⟨Nat.le_of_ble_eq_true rfl,?_⟩
 dsimp only at h h1 ⊢
 by_cases hlen:l.length=m.length
 ·repeat' (first|refine vz ?_|(conv=>whnf); first|with_reducible first|refine Sp.mk ?_ ?_|refine br_d (fun _=>?_) fun _=>?_|refine vM (fun _=>?_) fun _=>?_)
  refine Lp.mk ⟨Nat,fun i=>[(0,slS l),(1,slS m),(12,.int .i64 l.length),(13,.int .i64 i)],fun _=>[],fun i=>i≤l.length∧∀ j,j<i→l.getD j ⟨#[]⟩=m.getD j ⟨#[]⟩,fun i=>l.length-i,⟨0,⟨Nat.zero_le _,fun j hj=>absurd hj (Nat.not_lt_zero _)⟩,⟨⟨[],[],rfl,rfl,?_,?_⟩⟩⟩,?_⟩
  ·exact wq
  ·exact wq
  rintro i ⟨i1,i2⟩
  dsimp only
  repeat' (first|refine vz ?_|(conv=>whnf); first|with_reducible first|refine Sp.mk ?_ ?_|refine br_d (fun _=>?_) fun _=>?_|refine vM (fun _=>?_) fun _=>?_)
  ·rename_i hi
   refine Dr.mk ⟨(.rd 0 (.rd 1 (.rd 2 (.rd 3 (.rd 4 (.rd 5 (.rd 6 (.rd 7 (.rd 8 .dn))))))))),by decide +kernel,?_⟩
   repeat' (first|refine vz ?_|(conv=>whnf); first|with_reducible first|refine Sp.mk ?_ ?_|refine br_d (fun _=>?_) fun _=>?_|refine vM (fun _=>?_) fun _=>?_)
   ·rename_i he
    replace he:l.getD i ⟨#[]⟩=m.getD i ⟨#[]⟩:=he
    refine ⟨i+1,⟨by omega,fun j hj=>?_⟩,by omega,⟨⟨[],[],rfl,rfl,?_,?_⟩⟩⟩
    ·by_cases e:j=i
     ·subst e; exact he
     ·exact i2 j (by omega)
    ·exact wq
    ·exact wq
   ·rename_i he
    replace he:¬ l.getD i ⟨#[]⟩=m.getD i ⟨#[]⟩:=he
    exact yesF h fun q=>he (by rw [q])
  ·rename_i hi
   exact yesT h (eq_of_getD (d:=⟨#[]⟩) hlen fun j hj=>i2 j (by omega))
 ·repeat' (first|refine vz ?_|(conv=>whnf); first|with_reducible first|refine Sp.mk ?_ ?_|refine br_d (fun _=>?_) fun _=>?_|refine vM (fun _=>?_) fun _=>?_)
  exact yesF h fun q=>hlen (by rw [q])
theorem place_eq {p q:Int} {a b:List Int} {r s:List ByteArray}:(⟨p,a,r⟩:Place)=⟨q,b,s⟩ ↔ p=q∧a=b∧r=s:=by
 constructor
 ·intro h; injection h with h1 h2 h3; exact ⟨h1,h2,h3⟩
 ·rintro ⟨rfl,rfl,rfl⟩; rfl
structure Pp where
 x:Place
 y:Place
def C263:List AV→(AV→Prop)→Prop:=con (X:=Pp) (fun x=>[enPl x.x,enPl x.y]) (fun x=>x.x.bs.length<9223372036854775808∧x.x.rules.length<9223372036854775808) fun x K=>∀ b:Bool,(b=true ↔ x.x=x.y)→K (.bool b)
theorem F263:FF 99 C263:=by
 refine fitX [(142,C268),(143,C269)] (by simp only [List.mem_cons,List.not_mem_nil,or_false]; rintro _ (rfl|rfl) <;> first|exact F268|exact F269) [] (by simp) Tryz.f99 ⟨rfl,by decide +kernel,by decide +kernel⟩ (fun _ _ _ hk h b q=>hk _ (h b q)) ?_
 rintro ⟨⟨p,bs,rs⟩,⟨q,cs,ss⟩⟩ K ⟨h1,h2⟩ h
 refine ⟨Nat.le_of_ble_eq_true rfl,?_⟩
 dsimp only [enPl,plC] at h h1 h2 ⊢
 repeat' (first|refine vz ?_|(conv=>whnf); first|with_reducible first|refine Sp.mk ?_ ?_|refine br_d (fun _=>?_) fun _=>?_|refine vM (fun _=>?_) fun _=>?_)
 ·refine ⟨(bs,cs),?_,⟨h1⟩,?_⟩
  ·exact wq
  dsimp only
  by_cases hb:bs=cs
  ·rw [decide_eq_true hb]
   repeat' (first|refine vz ?_|(conv=>whnf); first|with_reducible first|refine Sp.mk ?_ ?_|refine br_d (fun _=>?_) fun _=>?_|refine vM (fun _=>?_) fun _=>?_)
   refine ⟨(rs,ss),?_,⟨h2⟩,?_⟩
   ·exact wq
   repeat' (first|refine vz ?_|(conv=>whnf); first|with_reducible first|refine Sp.mk ?_ ?_|refine br_d (fun _=>?_) fun _=>?_|refine vM (fun _=>?_) fun _=>?_)
   exact h _ ⟨fun g=>place_eq.2 ⟨by assumption,hb,of_decide_eq_true g⟩,fun g=>decide_eq_true (place_eq.1 g).2.2⟩
  ·rw [decide_eq_false hb]
   repeat' (first|refine vz ?_|(conv=>whnf); first|with_reducible first|refine Sp.mk ?_ ?_|refine br_d (fun _=>?_) fun _=>?_|refine vM (fun _=>?_) fun _=>?_)
   exact h _ ⟨fun g=>(by cases g),fun g=>absurd (place_eq.1 g).2.1 hb⟩
 ·exact h _ ⟨fun g=>(by cases g),fun g=>absurd (place_eq.1 g).1 (by assumption)⟩
/-! ### slices.Delete -/
theorem strs_map {l:List ByteArray}:Lib.strsOf (fun i=>l.getD i ⟨#[]⟩) l.length=l.map (fun (x:ByteArray)=>x.data.toList):=by
 unfold Lib.strsOf
 apply List.ext_getElem (by simp)
 intro i h1 h2
 have hi:i<l.length:=by simpa using h2
 simp only [List.getElem_map,List.getElem_range]
 rw [List.getD_eq_getElem?_getD,List.getElem?_eq_getElem hi]
 rfl
structure Dl where
 l:List ByteArray
 n:Nat
def C267:GC:=conG (X:=Dl) (fun x=>[.row 0 1 0 x.l.length,.int .i64 x.n,.int .i64 ((x.n:Int)+1)]) (fun x=>[.row 1 x.l.length fun i=>encS (x.l.getD i ⟨#[]⟩)]) (fun x=>x.n<x.l.length) fun x K=>K (.row 0 1 0 (x.l.length-1)) [.row 1 (x.l.length-1) fun i=>encS ((x.l.take x.n ++ x.l.drop (x.n+1)).getD i ⟨#[]⟩)]
theorem F267:GG 141 C267:=fun Gl hG=>by
 refine ⟨FnOk.has ⟨rfl,by decide +kernel,by decide +kernel⟩ (fn:=Tryz.f141),fun us og K K' hk ⟨x,h1,h2,h3,h4⟩=>⟨x,h1,h2,h3,hk _ _ h4⟩,?_⟩
 rintro us og K ⟨⟨l,n⟩,rfl,rfl,⟨hn⟩,hK⟩ ρ R w xs hh ha
 dsimp only at hn hK
 obtain ⟨hsz,hx⟩:=ha
 replace hsz:xs.size=3:=hsz
 have a0:=(hx 0 (by show 0<3; omega)).vr rfl
 have a1:=(hx 1 (by show 1<3; omega)).vr rfl
 have a2:=(hx 2 (by show 2<3; omega)).vr rfl
 have ex:xs=#[xs.getD 0 Go.undef,xs.getD 1 Go.undef,xs.getD 2 Go.undef]:=by
  apply Array.ext
  ·simpa using hsz
  ·intro i h1 h2
   have:i=0∨i=1∨i=2:=by omega
   rcases this with rfl|rfl|rfl <;> simp [h1]
 rw [ex]
 generalize xs.getD 0 Go.undef=x0 at a0
 generalize xs.getD 1 Go.undef=x1 at a1
 generalize xs.getD 2 Go.undef=x2 at a2
 replace a0:VR ρ R w (.row 0 1 0 l.length) x0:=a0
 replace a1:VR ρ R w (.int .i64 n) x1:=a1
 replace a2:VR ρ R w (.int .i64 ((n:Int)+1)) x2:=a2
 obtain rfl:x1=.int .i64 n:=by cases a1 with|data a1=>cases a1; rfl
 obtain rfl:x2=.int .i64 ((n:Int)+1):=by cases a2 with|data a2=>cases a2; rfl
 obtain ⟨b,cs,ty,g1,g2,g3,g4,g5⟩:∃ b xs ty,ρ 0=some b∧w.heap[b]?=some (.cells xs ty (0,0))∧l.length*1≤xs.size∧(∀ i,i<l.length→(encS (l.getD i ⟨#[]⟩)).length=1)∧∀ i,i<l.length→∀ j,j<1→DR R w ((encS (l.getD i ⟨#[]⟩)).getD j .undef) (xs.getD (i*1+j) Go.undef):=by
  rcases hh.obj 0 _ rfl with ⟨q,_⟩|q
  ·have q':l.length=0:=q
   omega
  ·exact q
 obtain ⟨cap,rfl,hcap⟩:∃ cap,x0=.slice (some ⟨b,0,none⟩) l.length cap∧l.length≤cap∧cap≤cs.size∧cap≤9223372036854775807:=by
  generalize hl:l.length=len at a0
  cases a0 with
  |data a0=>cases a0
  |row h1 h2 h3 h4 h5 =>
   rw [g1] at h1
   cases h1
   rw [g2] at h2
   cases h2
   exact ⟨_,by rw [Nat.zero_mul],h3,by omega,h5⟩
  |row0=>rw [hl] at hn; exact absurd hn (Nat.not_lt_zero _)
 have hc:∀ i,i<l.length→w.cell? ⟨b,0+i,none⟩=some (.string (l.getD i ⟨#[]⟩)):=fun i hi=>by
  have h6:=g5 i hi 0 (by decide)
  rw [Nat.mul_one,Nat.add_zero] at h6
  have h7:DR R w (.str (l.getD i ⟨#[]⟩)) (cs.getD i Go.undef):=h6
  have hics:i<cs.size:=by omega
  rw [Array.getD_eq_getD_getElem?,Array.getElem?_eq_getElem hics] at h7
  unfold World.cell?
  rw [Nat.zero_add]
  show (match w.heap[b]? with|some (.cells c _ _)=>if (none:Option Nat).isSome then none else c[i]?|_=>none)=_
  rw [g2]
  show cs[i]?=_
  rw [Array.getElem?_eq_getElem hics]
  simp only [Option.getD_some] at h7
  generalize cs[i]=v at h7 ⊢
  cases h7
  rfl
 have hf:∀ j,j<l.length→w.frozen? ⟨b,0+j,none⟩=false:=fun j _=>by
  unfold World.frozen?
  rw [show w.heap[(⟨b,0+j,none⟩:Addr).block]?=some (.cells cs ty (0,0)) from g2]
  simp
 have hcm:cap≤9223372036854775807:=hcap.2.2
 refine (Tryz.slices_Delete_string_cells b 0 l.length cap n (n+1) (fun i=>l.getD i ⟨#[]⟩) w hcap.1 hcm (Nat.le_succ n) hn hc hf).mono fun e w' he=>?_
 obtain ⟨rfl,q,rfl⟩:=he
 rw [strs_map,show n+1-n=1 by omega,← List.map_take,← List.map_drop,← List.map_append]
 obtain ⟨m,hm⟩:∃ m,l.take n ++ l.drop (n+1)=m:=⟨_,rfl⟩
 have hml:m.length=l.length-1:=by rw [← hm,List.length_append,List.length_take,List.length_drop]; omega
 rw [hm] at hK ⊢
 obtain ⟨vs,hvs⟩:∃ vs,(m.map (fun (x:ByteArray)=>x.data.toList) ++ List.replicate 1 []).map encStr=vs:=⟨_,rfl⟩
 have hvl:vs.length=l.length:=by rw [← hvs,List.length_map,List.length_append,List.length_map,List.length_replicate]; omega
 have hvg:∀ j,j<l.length-1→vs.getD j Go.undef=.string (m.getD j ⟨#[]⟩):=fun j hj=>by
  rw [← hvs,List.getD_eq_getElem?_getD,List.getElem?_map,List.getElem?_append_left (by rw [List.length_map]; omega),List.getElem?_map,List.getD_eq_getElem?_getD,List.getElem?_eq_getElem (by omega)]
  rfl
 obtain ⟨ys,f1,f2,f3,f4,f5,f6,f7,f8⟩:=setCells_facts vs 0 (w:=w.drewN q) (b:=b) (xs:=cs) (ty:=ty) g2 (by omega)
 rw [hvs]
 have hsame:∀ c,c≠b→((w.drewN q).setCells b 0 vs).heap[c]?=w.heap[c]?:=f4
 have hobj:OB ρ [.row 1 (l.length-1) fun i=>encS (m.getD i ⟨#[]⟩)] R ((w.drewN q).setCells b 0 vs) 0 (.row 1 (l.length-1) fun i=>encS (m.getD i ⟨#[]⟩)):=.inr ⟨b,ys,ty,g1,f1,by omega,fun _ _=>rfl,fun i hi j hj=>by
  obtain rfl:j=0:=by omega
  rw [Nat.mul_one,Nat.add_zero,f3 i,if_pos (by omega),Nat.sub_zero,hvg i hi]
  exact .str _⟩
 refine ⟨_,_,_,ρ,R,rfl,hK,⟨fun id b' h=>by have:=hh.dom id b' h; exact this,fun id b' h=>by rw [f5]; exact hh.lt id b' h,hh.inj,fun b' h=>⟨by rw [f5]; exact (hh.ro b' h).1,(hh.ro b' h).2⟩,fun id ob h=>?_,fun p hp=>⟨(hh.gl p hp).1,?_⟩⟩,⟨rfl,fun _=>?_⟩,Nat.le_refl _,?_⟩
 ·match id,h with
  |0,h=>cases h; exact hobj
  |k+1,h=>cases h
 ·rw [hsame p.1 fun e=>(hh.ro _ (hh.gl p hp).1).2 0 (by rw [g1,e])]
  exact (hh.gl p hp).2
 ·have h4:(0+cap)*1≤ys.size:=by omega
  have:=VR.row (ρ:=ρ) (R:=R) (w:=(w.drewN q).setCells b 0 vs) (id:=0) (sz:=1) (off:=0) (len:=l.length-1) (b:=b) (cs:=ys) (ty:=ty) (cap:=cap) g1 f1 (by omega) h4 hcm
  rwa [Nat.zero_mul] at this
 ·refine ⟨fun id hid=>?_,fun _ h=>h,fun _ h=>.inl h,fun id _ h=>.inr ⟨id,h⟩,Nat.le_of_eq f5.symm,fun c _ hne=>hsame c fun e=>hne 0 (e ▸ g1),fun c xs' ty' h=>?_,f6,f7,f8⟩
  ·match id,hid with
   |0,_=>exact ⟨⟨_,_,rfl⟩,rfl⟩
  ·by_cases e:c=b
   ·subst e
    rw [g2] at h
    cases h
    exact ⟨ys,f1,f2⟩
   ·exact ⟨xs',by rw [hsame c e]; exact h,rfl⟩
end Go.Proofs.YtapeebjjljohdaaGreatDoor.Vc
end
section
/- Part QS: slices.Sort and slices.Compact of what is in order. -/
namespace Go.Proofs.YtapeebjjljohdaaGreatDoor.Vc
open Go.Proofs Go.RowKit Go.Lib Go.Sort
set_option maxRecDepth 10000
set_option maxHeartbeats 4000000
theorem compact_sorted {l:List Int} (h:l.Pairwise (·<·)):Lib.compact l=l:=by
 unfold Lib.compact Lib.compactUpTo
 rw [List.filter_eq_self.2 fun j hj=>?_]
 ·apply List.ext_getElem (by simp)
  intro i h1 h2
  simp [h2]
 ·rw [List.mem_range] at hj
  by_cases h0:j=0
  ·exact Lib.keeps_lt_one _ j (by omega)
  ·refine Lib.keeps_pos fun e=>?_
   have:=List.pairwise_iff_getElem.1 h (j-1) j (by omega) hj (by omega)
   have e':l[j]=l[j-1]:=by simpa [hj,show j-1<l.length by omega] using e
   omega
theorem sort_sorted {l:List Int} (h:l.Pairwise (·<·)):(l.mergeSort fun x y=>decide (x≤y))=l :=
 List.mergeSort_of_pairwise (h.imp fun h=>decide_eq_true (Int.le_of_lt h))
structure ascL (l:List Int):Prop where
 ne:0<l.length
 lt:l.length≤100
 asc:l.Pairwise (·<·)
theorem heap_grow {w:World} {n:Nat} {os:Array Go.Obj} {c:Nat} (h:c<w.heap.size):(grow (Sort.ahead w n) os).heap[c]?=w.heap[c]?:=by
 show (w.heap ++ os)[c]?=_
 rw [Array.getElem?_append_left h]
def C338:GC:=conG (X:=List Int) (fun l=>[.row 0 1 0 l.length]) (fun l=>[.row 1 l.length fun i=>encI (l.getD i 0)]) ascL fun l K=>K (.tup []) [.row 1 l.length fun i=>encI (l.getD i 0)]
theorem F338:GG 231 C338:=fun Gl hG=>by
 refine ⟨FnOk.has ⟨rfl,by decide +kernel,by decide +kernel⟩ (fn:=Tryz.f231),fun us og K K' hk ⟨x,h1,h2,h3,h4⟩=>⟨x,h1,h2,h3,hk _ _ h4⟩,?_⟩
 rintro us og K ⟨l,rfl,rfl,⟨hl⟩,hK⟩ ρ R w xs hh ha
 have hne:=hl.ne
 have hle:=hl.lt
 obtain ⟨hsz,hx⟩:=ha
 replace hsz:xs.size=1:=hsz
 have a0:=(hx 0 (by show 0<1; omega)).vr rfl
 have ex:xs=#[xs.getD 0 Go.undef]:=by
  apply Array.ext
  ·simpa using hsz
  ·intro i h1 h2
   have:i=0:=by omega
   subst this
   simp [h1]
 rw [ex]
 generalize xs.getD 0 Go.undef=x0 at a0
 replace a0:VR ρ R w (.row 0 1 0 l.length) x0:=a0
 have hob:OB ρ [.row 1 l.length fun i=>encI (l.getD i 0)] R w 0 (.row 1 l.length fun i=>encI (l.getD i 0)):=hh.obj 0 _ rfl
 obtain ⟨b,cs,ty,g1,g2,g3,g4,g5⟩:∃ b xs ty,ρ 0=some b∧w.heap[b]?=some (.cells xs ty (0,0))∧l.length*1≤xs.size∧(∀ i,i<l.length→(encI (l.getD i 0)).length=1)∧∀ i,i<l.length→∀ j,j<1→DR R w ((encI (l.getD i 0)).getD j .undef) (xs.getD (i*1+j) Go.undef):=by
  rcases hob with ⟨q,_⟩|q
  ·have q':l.length=0:=q
   omega
  ·exact q
 have hbl:=hh.lt 0 b g1
 obtain ⟨cap,rfl,hcap⟩:∃ cap,x0=.slice (some ⟨b,0,none⟩) l.length cap∧l.length≤cap∧cap≤cs.size∧cap≤9223372036854775807:=by
  generalize hll:l.length=len at a0
  cases a0 with
  |data a0=>cases a0
  |row h1 h2 h3 h4 h5 =>
   rw [g1] at h1
   cases h1
   rw [g2] at h2
   cases h2
   exact ⟨_,by rw [Nat.zero_mul],h3,by omega,h5⟩
  |row0=>omega
 have hcv:∀ i,i<l.length→cs.getD i Go.undef=.int .i64 (l.getD i 0):=fun i hi=>by
  have h6:=g5 i hi 0 (by decide)
  rw [Nat.mul_one,Nat.add_zero] at h6
  have h7:DR R w (.int .i64 (l.getD i 0)) (cs.getD i Go.undef):=h6
  generalize cs.getD i Go.undef=v at h7 ⊢
  cases h7
  rfl
 have hc:∀ i,i<l.length→w.cell? ⟨b,0+i,none⟩=some (.int .i64 (l.getD i 0)):=fun i hi=>by
  have hics:i<cs.size:=by omega
  have:=hcv i hi
  rw [Array.getD_eq_getD_getElem?,Array.getElem?_eq_getElem hics] at this
  unfold World.cell?
  rw [Nat.zero_add]
  show (match w.heap[b]? with|some (.cells c _ _)=>if (none:Option Nat).isSome then none else c[i]?|_=>none)=_
  rw [g2]
  show cs[i]?=_
  rw [Array.getElem?_eq_getElem hics]
  exact congrArg some this
 have hf:∀ j,j<l.length→w.frozen? ⟨b,0+j,none⟩=false:=fun j _=>by
  unfold World.frozen?
  rw [show w.heap[(⟨b,0+j,none⟩:Addr).block]?=some (.cells cs ty (0,0)) from g2]
  simp
 have hH:=Lib.holds_of_ints (n:=l.length) (Nat.le_refl _) hc hf
 rw [List.take_of_length_le (Nat.le_refl _)] at hH
 refine (Tryz.slices_Sort_int b 0 cap l w hH hbl (by omega)).mono fun e w' he=>?_
 obtain ⟨rfl,n,os,rfl⟩:=he
 rw [sort_sorted hl.asc,putRow_ahead,putRow_self _ _ _ _ _ hH]
 have hs:∀ c,c<w.heap.size→(grow (Sort.ahead w n) os).heap[c]?=w.heap[c]?:=fun c h=>heap_grow h
 have hsz':w.heap.size≤(grow (Sort.ahead w n) os).heap.size:=by show _≤(w.heap ++ os).size; rw [Array.size_append]; omega
 refine ⟨_,_,_,ρ,R,rfl,hK,⟨fun id b' h=>hh.dom id b' h,fun id b' h=>Nat.lt_of_lt_of_le (hh.lt id b' h) hsz',hh.inj,fun b' h=>⟨Nat.lt_of_lt_of_le (hh.ro b' h).1 hsz',(hh.ro b' h).2⟩,fun id ob h=>?_,fun p hp=>⟨(hh.gl p hp).1,?_⟩⟩,⟨rfl,fun _=>.tup [] #[] rfl fun j hj=>absurd hj (Nat.not_lt_zero _)⟩,Nat.le_refl _,?_⟩
 ·match id,h with
  |0,h=>cases h; exact .inr ⟨b,cs,ty,g1,by rw [hs b hbl]; exact g2,g3,g4,fun i hi j hj=>(g5 i hi j hj).go (fun _ h=>h) fun b' hb'=>hs b' (hh.ro b' hb').1⟩
  |k+1,h=>cases h
 ·rw [hs p.1 (hh.ro _ (hh.gl p hp).1).1]
  exact (hh.gl p hp).2
 ·refine ⟨fun id hid=>?_,fun _ h=>h,fun _ h=>.inl h,fun id _ h=>.inr ⟨id,h⟩,hsz',fun c hc' _=>hs c hc',fun c xs' ty' h=>⟨xs',by rw [hs c (Array.getElem?_eq_some_iff.1 h).1]; exact h,rfl⟩,rfl,rfl,rfl⟩
  match id,hid with
  |0,_=>exact ⟨⟨_,_,rfl⟩,rfl⟩
def C339:GC:=conG (X:=List Int) (fun l=>[.row 0 1 0 l.length]) (fun l=>[.row 1 l.length fun i=>encI (l.getD i 0)]) ascL fun l K=>K (.row 0 1 0 l.length) [.row 1 l.length fun i=>encI (l.getD i 0)]
theorem F339:GG 232 C339:=fun Gl hG=>by
 refine ⟨FnOk.has ⟨rfl,by decide +kernel,by decide +kernel⟩ (fn:=Tryz.f232),fun us og K K' hk ⟨x,h1,h2,h3,h4⟩=>⟨x,h1,h2,h3,hk _ _ h4⟩,?_⟩
 rintro us og K ⟨l,rfl,rfl,⟨hl⟩,hK⟩ ρ R w xs hh ha
 have hne:=hl.ne
 have hle:=hl.lt
 obtain ⟨hsz,hx⟩:=ha
 replace hsz:xs.size=1:=hsz
 have a0:=(hx 0 (by show 0<1; omega)).vr rfl
 have ex:xs=#[xs.getD 0 Go.undef]:=by
  apply Array.ext
  ·simpa using hsz
  ·intro i h1 h2
   have:i=0:=by omega
   subst this
   simp [h1]
 rw [ex]
 generalize xs.getD 0 Go.undef=x0 at a0
 replace a0:VR ρ R w (.row 0 1 0 l.length) x0:=a0
 have hob:OB ρ [.row 1 l.length fun i=>encI (l.getD i 0)] R w 0 (.row 1 l.length fun i=>encI (l.getD i 0)):=hh.obj 0 _ rfl
 obtain ⟨b,cs,ty,g1,g2,g3,g4,g5⟩:∃ b xs ty,ρ 0=some b∧w.heap[b]?=some (.cells xs ty (0,0))∧l.length*1≤xs.size∧(∀ i,i<l.length→(encI (l.getD i 0)).length=1)∧∀ i,i<l.length→∀ j,j<1→DR R w ((encI (l.getD i 0)).getD j .undef) (xs.getD (i*1+j) Go.undef):=by
  rcases hob with ⟨q,_⟩|q
  ·have q':l.length=0:=q
   omega
  ·exact q
 have hbl:=hh.lt 0 b g1
 obtain ⟨cap,rfl,hcap⟩:∃ cap,x0=.slice (some ⟨b,0,none⟩) l.length cap∧l.length≤cap∧cap≤cs.size∧cap≤9223372036854775807:=by
  generalize hll:l.length=len at a0
  cases a0 with
  |data a0=>cases a0
  |row h1 h2 h3 h4 h5 =>
   rw [g1] at h1
   cases h1
   rw [g2] at h2
   cases h2
   exact ⟨_,by rw [Nat.zero_mul],h3,by omega,h5⟩
  |row0=>omega
 have hcv:∀ i,i<l.length→cs.getD i Go.undef=.int .i64 (l.getD i 0):=fun i hi=>by
  have h6:=g5 i hi 0 (by decide)
  rw [Nat.mul_one,Nat.add_zero] at h6
  have h7:DR R w (.int .i64 (l.getD i 0)) (cs.getD i Go.undef):=h6
  generalize cs.getD i Go.undef=v at h7 ⊢
  cases h7
  rfl
 have hc:∀ i,i<l.length→w.cell? ⟨b,0+i,none⟩=some (.int .i64 (l.getD i 0)):=fun i hi=>by
  have hics:i<cs.size:=by omega
  have:=hcv i hi
  rw [Array.getD_eq_getD_getElem?,Array.getElem?_eq_getElem hics] at this
  unfold World.cell?
  rw [Nat.zero_add]
  show (match w.heap[b]? with|some (.cells c _ _)=>if (none:Option Nat).isSome then none else c[i]?|_=>none)=_
  rw [g2]
  show cs[i]?=_
  rw [Array.getElem?_eq_getElem hics]
  exact congrArg some this
 have hf:∀ j,j<l.length→w.frozen? ⟨b,0+j,none⟩=false:=fun j _=>by
  unfold World.frozen?
  rw [show w.heap[(⟨b,0+j,none⟩:Addr).block]?=some (.cells cs ty (0,0)) from g2]
  simp
 have hH:=Lib.holds_of_ints (n:=l.length) (Nat.le_refl _) hc hf
 rw [List.take_of_length_le (Nat.le_refl _)] at hH
 refine (Tryz.slices_Compact_int b 0 cap l w hH (by omega) hcap.1).mono fun e w' he=>?_
 obtain ⟨rfl,q,rfl⟩:=he
 rw [compact_sorted hl.asc,Nat.sub_self,List.replicate_zero,List.append_nil,putRow_ahead,putRow_self _ _ _ _ _ hH]
 have hs:∀ c:Nat,(Sort.ahead w q).heap[c]?=w.heap[c]?:=fun c=>rfl
 refine ⟨_,_,_,ρ,R,rfl,hK,⟨fun id b' h=>hh.dom id b' h,fun id b' h=>hh.lt id b' h,hh.inj,fun b' h=>hh.ro b' h,fun id ob h=>?_,fun p hp=>hh.gl p hp⟩,⟨rfl,fun _=>?_⟩,Nat.le_refl _,?_⟩
 ·match id,h with
  |0,h=>cases h; exact .inr ⟨b,cs,ty,g1,g2,g3,g4,fun i hi j hj=>(g5 i hi j hj).go (fun _ h=>h) fun b' _=>hs b'⟩
  |k+1,h=>cases h
 ·have:=VR.row (ρ:=ρ) (R:=R) (w:=Sort.ahead w q) (id:=0) (sz:=1) (off:=0) (len:=l.length) (b:=b) (cs:=cs) (ty:=ty) (cap:=cap) g1 g2 hcap.1 (by omega) hcap.2.2
  rwa [Nat.zero_mul] at this
 ·refine ⟨fun id hid=>?_,fun _ h=>h,fun _ h=>.inl h,fun id _ h=>.inr ⟨id,h⟩,Nat.le_refl _,fun c _ _=>hs c,fun c xs' ty' h=>⟨xs',h,rfl⟩,rfl,rfl,rfl⟩
  match id,hid with
  |0,_=>exact ⟨⟨_,_,rfl⟩,rfl⟩
end Go.Proofs.YtapeebjjljohdaaGreatDoor.Vc
end
section
/- Part QG: the least crowds, by the implementation. -/
namespace Go.Proofs.YtapeebjjljohdaaGreatDoor.Vc
open Go.Proofs
set_option maxRecDepth 10000
set_option maxHeartbeats 4000000
theorem and_not:∀ d,d<64→∀ c,c<64→(bitop .i64 .andNot ((d:Nat):Int) ((c:Nat):Int)=0 ↔ band (d:Nat) (c:Nat)=((d:Nat):Int)):=by decide +kernel
theorem and_not' {d c:Int} (hd:0≤d∧d<64) (hc:0≤c∧c<64):bitop .i64 .andNot d c=0 ↔ band d c=d:=by
 have:=and_not d.toNat (by omega) c.toNat (by omega)
 rwa [Int.toNat_of_nonneg hd.1,Int.toNat_of_nonneg hc.1] at this
def inB (d c:Int):Bool:=decide (d≠c) && decide (band d c=d)
theorem lsB_in {L:List Int} {c:Int}:lsB L c=L.all fun d=>!inB d c:=by
 unfold lsB
 congr 1
 funext d
 unfold inB
 by_cases h:d=c <;> by_cases g:band d c=d <;> simp [h,g]
structure Dc where
 d:Int
 c:Int
def C337:GC:=conG (X:=Dc) (fun x=>[.int .i64 x.d,.ptr 0 0]) (fun x=>[.box [.int .i64 x.c]]) (fun x=>(0≤x.d∧x.d<64)∧0≤x.c∧x.c<64) fun x K=>K (.bool (inB x.d x.c)) [.box [.int .i64 x.c]]
theorem F337:GG 230 C337:=by
 refine fitG [] (by simp) [] (by simp) Tryz.f230 ⟨rfl,by decide +kernel,by decide +kernel⟩ (by intro x K K2 hk h; (try dsimp only at h ⊢); intros; apply hk; first|exact h|(apply h <;> assumption)) ?_
 rintro ⟨d,c⟩ K ⟨hd,hc⟩ h
 refine ⟨Nat.le_of_ble_eq_true rfl,?_⟩
 dsimp only at h hd hc ⊢
 have ha:=and_not' hd hc
 repeat' (first|refine vz ?_|(conv=>whnf); first|with_reducible first|refine Sp.mk ?_ ?_|refine br_d (fun _=>?_) fun _=>?_|refine vM (fun _=>?_) fun _=>?_)
 ·rename_i q
  have e:inB d c=false:=by
   unfold inB
   rw [decide_eq_false (show ¬ d≠c from fun g=>g q),Bool.false_and]
  rw [e] at h
  refine ⟨_,_,[some 0],[],rfl,rfl,?_,?_,h⟩
  ·exact wq
  ·exact wq
 ·rename_i q
  have e:inB d c=decide (bitop .i64 .andNot d c=0):=by
   unfold inB
   rw [decide_eq_true (show d≠c from q),Bool.true_and]
   exact decide_eq_decide.2 ha.symm
  rw [e] at h
  refine ⟨_,_,[some 0],[],rfl,rfl,?_,?_,h⟩
  ·exact wq
  ·exact wq
structure Lc where
 l:List Int
 c:Int
def lcI (x:Lc):Prop:=x.l.length≤64∧(∀ d∈x.l,0≤d∧d<64)∧0≤x.c∧x.c<64
def C341:GC:=conG (X:=Lc) (fun x=>[slI x.l,.fn 230 [] [.ptr 0 0]]) (fun x=>[.box [.int .i64 x.c]]) lcI fun x K=>ixpost x.l.length (fun i=>inB (x.l.getD i 0) x.c=true) fun r=>K r [.box [.int .i64 x.c]]
theorem F341:GG 237 C341:=by
 refine fitG [] (by simp) [(230,C337)] (by simp only [List.mem_cons,List.not_mem_nil,or_false]; rintro _ rfl <;> first|exact F337) Tryz.f237 ⟨rfl,by decide +kernel,by decide +kernel⟩ (fun _ _ _ hk h i h1 h2 h3 h4=>hk _ _ (h i h1 h2 h3 h4)) ?_
 rintro ⟨l,c⟩ K ⟨h1,h2,h3⟩ h
 refine ⟨Nat.le_of_ble_eq_true rfl,?_⟩
 dsimp only at h h1 h2 h3 ⊢
 repeat' (first|refine vz ?_|(conv=>whnf); first|with_reducible first|refine Sp.mk ?_ ?_|refine br_d (fun _=>?_) fun _=>?_|refine vM (fun _=>?_) fun _=>?_)
 refine Lp.mk ⟨Nat,fun i=>[(0,slI l),(1,.fn 230 [] [.ptr 0 0]),(7,.int .i64 l.length),(8,.int .i64 i)],fun _=>[.box [.int .i64 c]],fun i=>i≤l.length∧∀ j,j<i→¬ inB (l.getD j 0) c=true,fun i=>l.length-i,⟨0,⟨Nat.zero_le _,fun j hj=>absurd hj (Nat.not_lt_zero _)⟩,⟨⟨[some 0],[],rfl,rfl,?_,?_⟩⟩⟩,?_⟩
 ·exact wq
 ·exact wq
 rintro i ⟨i1,i2⟩
 dsimp only
 repeat' (first|refine vz ?_|(conv=>whnf); first|with_reducible first|refine Sp.mk ?_ ?_|refine br_d (fun _=>?_) fun _=>?_|refine vM (fun _=>?_) fun _=>?_)
 ·rename_i hi
  have hi:i<l.length:=by omega
  refine ⟨_,_,[0],[],rfl,?_,?_,⟨l.getD i 0,c⟩,rfl,rfl,⟨h2 _ (getD_mem' hi),h3⟩,?_⟩
  ·exact wq
  ·exact wq
  dsimp only
  repeat' (first|refine vz ?_|(conv=>whnf); first|with_reducible first|refine Sp.mk ?_ ?_|refine br_d (fun _=>?_) fun _=>?_|refine vM (fun _=>?_) fun _=>?_)
  ·rename_i hb
   refine ⟨_,_,[some 0],[],rfl,rfl,?_,?_,h i (by omega) (by omega) (fun e=>by omega) (fun _=>hb)⟩
   ·exact wq
   ·exact wq
  ·rename_i hb
   refine ⟨i+1,⟨by omega,fun j hj=>?_⟩,by omega,⟨⟨[some 0],[],rfl,rfl,?_,?_⟩⟩⟩
   ·by_cases e:j=i
    ·subst e; rw [hb]; exact Bool.false_ne_true
    ·exact i2 j (by omega)
   ·exact wq
   ·exact wq
 ·rename_i hi
  refine ⟨_,_,[some 0],[],rfl,rfl,?_,?_,h (-1) (by omega) (by omega) (fun _ j hj=>i2 j (by omega)) (fun e=>absurd e (by decide))⟩
  ·exact wq
  ·exact wq
def C340:GC:=conG (X:=Lc) (fun x=>[slI x.l,.fn 230 [] [.ptr 0 0]]) (fun x=>[.box [.int .i64 x.c]]) lcI fun x K=>K (.bool (!lsB x.l x.c)) [.box [.int .i64 x.c]]
theorem F340:GG 229 C340:=by
 refine fitG [] (by simp) [(237,C341)] (by simp only [List.mem_cons,List.not_mem_nil,or_false]; rintro _ rfl <;> first|exact F341) Tryz.f229 ⟨rfl,by decide +kernel,by decide +kernel⟩ (by intro x K K2 hk h; (try dsimp only at h ⊢); intros; apply hk; first|exact h|(apply h <;> assumption)) ?_
 rintro ⟨l,c⟩ K hI h
 refine ⟨Nat.le_of_ble_eq_true rfl,?_⟩
 dsimp only at h ⊢
 repeat' (first|refine vz ?_|(conv=>whnf); first|with_reducible first|refine Sp.mk ?_ ?_|refine br_d (fun _=>?_) fun _=>?_|refine vM (fun _=>?_) fun _=>?_)
 refine ⟨_,_,[0],[],rfl,?_,?_,⟨l,c⟩,rfl,rfl,⟨hI⟩,?_⟩
 ·exact wq
 ·exact wq
 intro i g1 g2 g3 g4
 dsimp only at g1 g2 g3 g4 ⊢
 have e:(!lsB l c)=decide (i≥0):=by
  rw [lsB_in]
  by_cases hi:i≥0
  ·rw [decide_eq_true hi,Bool.not_eq_true',List.all_eq_false]
   exact ⟨_,getD_mem' (l:=l) (i:=i.toNat) (d:=0) (by omega),by rw [g4 hi]; decide⟩
  ·rw [decide_eq_false hi,Bool.not_eq_false',List.all_eq_true]
   intro d hd
   obtain ⟨j,hj,rfl⟩:=List.getElem_of_mem hd
   have:=g3 (by omega) j hj
   rw [List.getD_eq_getElem?_getD,List.getElem?_eq_getElem hj] at this
   simpa using this
 rw [e] at h
 repeat' (first|refine vz ?_|(conv=>whnf); first|with_reducible first|refine Sp.mk ?_ ?_|refine br_d (fun _=>?_) fun _=>?_|refine vM (fun _=>?_) fun _=>?_)
 refine ⟨_,_,[some 0],[],rfl,rfl,?_,?_,h⟩
 ·exact wq
 ·exact wq
structure lcOk (l:List Int):Prop where
 lt:l.length≤64
 cr:∀ d∈l,0≤d∧d<64
 asc:l.Pairwise (·<·)
 ne:l.filter (lsB l)≠[]
def C336:List AV→(AV→Prop)→Prop:=con (X:=List Int) (fun l=>[slI l]) lcOk fun l K=>K (slI (l.filter (lsB l)))
theorem F336:FF 215 C336:=by
 refine fitX [] (by simp) [(229,C340),(231,C338),(232,C339)] (by simp only [List.mem_cons,List.not_mem_nil,or_false]; rintro _ (rfl|rfl|rfl) <;> first|exact F340|exact F338|exact F339) Tryz.f215 ⟨rfl,by decide +kernel,by decide +kernel⟩ (by intro x K K2 hk h; (try dsimp only at h ⊢); intros; apply hk; first|exact h|(apply h <;> assumption)) ?_
 rintro l K hL h
 refine ⟨Nat.le_of_ble_eq_true rfl,?_⟩
 have h1:=hL.lt
 have h2:=hL.cr
 obtain ⟨q,hq⟩:∃ q,lsB l=q:=⟨_,rfl⟩
 have hA:ascL (l.filter q):=by
  rw [← hq]
  refine ⟨?_,?_,hL.asc.filter _⟩
  ·exact List.length_pos_iff.2 hL.ne
  ·have:=List.length_filter_le (lsB l) l
   omega
 rw [hq] at h
 repeat' (first|refine vz ?_|(conv=>whnf); first|with_reducible first|refine Sp.mk ?_ ?_|refine br_d (fun _=>?_) fun _=>?_|refine vM (fun _=>?_) fun _=>?_)
 refine Lp.mk ⟨Nat,fun i=>[(0,slI l),(3,.row 0 1 0 ((l.take i).filter q).length),(7,slI l),(8,.int .i64 l.length),(9,.int .i64 i)],fun i=>[.row 1 ((l.take i).filter q).length fun j=>encI (((l.take i).filter q).getD j 0)],fun i=>i≤l.length,fun i=>l.length-i,⟨0,Nat.zero_le _,⟨⟨[none],[],rfl,rfl,?_,?_⟩⟩⟩,?_⟩
 ·exact wq
 ·exact wq
 intro i i1
 dsimp only
 have hll:((l.take i).filter q).length≤64:=by
  have:=List.length_filter_le q (l.take i)
  rw [List.length_take] at this
  omega
 repeat' (first|refine vz ?_|(conv=>whnf); first|with_reducible first|refine Sp.mk ?_ ?_|refine br_d (fun _=>?_) fun _=>?_|refine vM (fun _=>?_) fun _=>?_)
 ·rename_i hi
  have hi:i<l.length:=by omega
  refine ⟨_,_,[1],[],rfl,?_,?_,⟨l,l.getD i 0⟩,rfl,rfl,⟨h1,h2,h2 _ (getD_mem' hi)⟩,?_⟩
  ·exact wq
  ·exact wq
  dsimp only
  rw [hq]
  repeat' (first|refine vz ?_|(conv=>whnf); first|with_reducible first|refine Sp.mk ?_ ?_|refine br_d (fun _=>?_) fun _=>?_|refine vM (fun _=>?_) fun _=>?_)
  ·rename_i hv
   have e:=filt_t (q:=q) hi (by simpa using hv)
   refine ⟨i+1,by omega,by omega,?_⟩
   first|(refine ⟨⟨[some 3],[],rfl,rfl,?_,?_⟩⟩ <;> (repeat' ((conv=>whnf); first|with_reducible exact True.intro|exact vW|with_reducible refine And.intro ?_ ?_|exact Chk.mk ⟨rfl,by rw [e]; simp⟩|exact Chk.mk (by rw [e]; exact app_ext rfl))) <;> fail)|(refine ⟨⟨[some 2],[],rfl,rfl,?_,?_⟩⟩ <;> (repeat' ((conv=>whnf); first|with_reducible exact True.intro|exact vW|with_reducible refine And.intro ?_ ?_|exact Chk.mk ⟨rfl,by rw [e]; simp⟩|exact Chk.mk (by rw [e]; exact app_ext rfl))) <;> fail)|(refine ⟨⟨[some 4],[],rfl,rfl,?_,?_⟩⟩ <;> (repeat' ((conv=>whnf); first|with_reducible exact True.intro|exact vW|with_reducible refine And.intro ?_ ?_|exact Chk.mk ⟨rfl,by rw [e]; simp⟩|exact Chk.mk (by rw [e]; exact app_ext rfl))) <;> fail)
  ·rename_i hv
   have e:=filt_f (q:=q) hi (by simpa using hv)
   refine ⟨i+1,by omega,by omega,⟨⟨[some 0],[],rfl,rfl,?_,?_⟩⟩⟩
   ·repeat' ((conv=>whnf); first|with_reducible exact True.intro|exact vW|with_reducible refine And.intro ?_ ?_)
    all_goals exact Chk.mk ⟨rfl,by rw [e]⟩
   ·repeat' ((conv=>whnf); first|with_reducible exact True.intro|exact vW|with_reducible refine And.intro ?_ ?_)
    all_goals exact Chk.mk (by rw [e]; exact ⟨rfl,fun _ _=>rfl⟩)
 ·rename_i hi
  rw [List.take_of_length_le (by omega)]
  refine ⟨_,_,[0],[],rfl,?_,?_,l.filter q,rfl,rfl,⟨hA⟩,?_⟩
  ·exact wq
  ·exact wq
  dsimp only
  repeat' (first|refine vz ?_|(conv=>whnf); first|with_reducible first|refine Sp.mk ?_ ?_|refine br_d (fun _=>?_) fun _=>?_|refine vM (fun _=>?_) fun _=>?_)
  refine ⟨_,_,[0],[],rfl,?_,?_,l.filter q,rfl,rfl,⟨hA⟩,?_⟩
  ·exact wq
  ·exact wq
  dsimp only
  repeat' (first|refine vz ?_|(conv=>whnf); first|with_reducible first|refine Sp.mk ?_ ?_|refine br_d (fun _=>?_) fun _=>?_|refine vM (fun _=>?_) fun _=>?_)
  refine Eq.mp (congrArg (fun z=>K (AV.sl 1 _ z)) ?_) h
  funext j
  dsimp only
  rw [Nat.zero_add]
def C334:GC:=conG (X:=Sy) (fun x=>[.int .i64 x.c,.ptr 0 0,.ptr 1 0]) (fun x=>[.box [.int .i64 x.p,slI x.bs],.box [slM x.t]]) (fun x=>sayOk x∧x.t.length≤9) fun x K=>K (.bool (says x.bs x.c x.t)) [.box [.int .i64 x.p,slI x.bs],.box [slM x.t]]
theorem F334:GG 189 C334:=by
 refine fitG [(181,C39)] (by simp only [List.mem_cons,List.not_mem_nil,or_false]; rintro _ rfl <;> first|exact F39) [] (by simp) Tryz.f189 ⟨rfl,by decide +kernel,by decide +kernel⟩ (by intro x K K2 hk h; (try dsimp only at h ⊢); intros; apply hk; first|exact h|(apply h <;> assumption)) ?_
 rintro ⟨p,bs,t,c⟩ K hI h
 refine ⟨Nat.le_of_ble_eq_true rfl,?_⟩
 dsimp only at h ⊢
 repeat' (first|refine vz ?_|(conv=>whnf); first|with_reducible first|refine Sp.mk ?_ ?_|refine br_d (fun _=>?_) fun _=>?_|refine vM (fun _=>?_) fun _=>?_)
 refine ⟨⟨p,bs,t,c⟩,?_,⟨hI⟩,?_⟩
 ·exact wq
 repeat' (first|refine vz ?_|(conv=>whnf); first|with_reducible first|refine Sp.mk ?_ ?_|refine br_d (fun _=>?_) fun _=>?_|refine vM (fun _=>?_) fun _=>?_)
 refine ⟨_,_,[some 0,some 1],[],rfl,rfl,?_,?_,h⟩
 ·exact wq
 ·exact wq
theorem least_asc {q:Int→Bool} {n:Nat} (hn:n≤64) (h:leastF (cl q n) n≠[]):lcOk (cl q n):=by
 refine ⟨by have:=cl_le q n; omega,fun d hd=>?_,cl_sorted q n,?_⟩
 ·have:=(mem_cl.1 hd).1
  omega
 ·rw [least_filter]
  exact h
def C335:GC:=conG (X:=Dx) (fun x=>[.int .i64 x.p,.fn 189 [] [.ptr 0 0,.ptr 1 0]]) (fun x=>[.box [.int .i64 x.p,slI x.bs],.box [slM x.t]]) (fun x=>termOk ⟨x.p,x.bs⟩ x.t) fun x K=>K (slI (leastF (sayl x.bs x.t (pw x.p).toNat) (pw x.p).toNat)) [.box [.int .i64 x.p,slI x.bs],.box [slM x.t]]
theorem F335:GG 188 C335:=by
 refine fitG [(215,C336)] (by simp only [List.mem_cons,List.not_mem_nil,or_false]; rintro _ rfl <;> first|exact F336) [(189,C334)] (by simp only [List.mem_cons,List.not_mem_nil,or_false]; rintro _ rfl <;> first|exact F334) Tryz.f188 ⟨rfl,by decide +kernel,by decide +kernel⟩ (by intro x K K2 hk h; (try dsimp only at h ⊢); intros; apply hk; first|exact h|(apply h <;> assumption)) ?_
 rintro ⟨p,bs,t⟩ K hO h
 refine ⟨Nat.le_of_ble_eq_true rfl,?_⟩
 dsimp only at h hO ⊢
 have pp:people p:=hO.1.1
 have hp:=pw_le pp
 repeat' (first|refine vz ?_|(conv=>whnf); first|with_reducible refine Wr.ex (wsh pp) ?_|with_reducible first|refine Sp.mk ?_ ?_|refine br_d (fun _=>?_) fun _=>?_|refine vM (fun _=>?_) fun _=>?_)
 refine Lp.mk ⟨Nat,fun i=>[(0,.int .i64 p),(1,.fn 189 [] [.ptr 0 0,.ptr 1 0]),(5,.row 2 1 0 (sayl bs t i).length),(9,.int .i64 (pw p)),(10,.int .i64 i)],
  fun i=>[.box [.int .i64 p,slI bs],.box [slM t],.row 1 (sayl bs t i).length fun j=>encI ((sayl bs t i).getD j 0)],fun i=>i≤(pw p).toNat,fun i=>(pw p).toNat-i,⟨0,Nat.zero_le _,⟨⟨[some 0,some 1,none],[],rfl,rfl,?_,?_⟩⟩⟩,?_⟩
 ·repeat' ((conv=>whnf); first|with_reducible exact True.intro|exact vW|with_reducible refine And.intro ?_ ?_)
  all_goals exact Chk.mk (pw_sh pp).symm
 ·exact wq
 intro i i1
 dsimp only
 have hll:(sayl bs t i).length≤i:=cl_le _ i
 repeat' ((conv=>whnf); first|with_reducible refine wk_at 8 ?_|with_reducible refine wk_at1 8 ?_|with_reducible refine wk_at2 8 ?_|refine vA ?_|with_reducible first|refine v8 ?_|refine Sp.mk ?_ ?_|refine vS ?_|refine vR ?_|refine vB ?_|refine br_nt ?_|refine br_tt ?_|refine br_ff ?_|refine vP ?_|refine vQ ?_|refine vT ?_|refine vF ?_|refine br_and ?_|refine br_or ?_|refine br_d (fun _=>?_) fun _=>?_|refine vM (fun _=>?_) fun _=>?_)
 ·rename_i hi
  refine ⟨_,_,[0,1],[],rfl,?_,?_,⟨p,bs,t,i⟩,rfl,rfl,⟨sayOk_of hO _ (by omega) (by omega),hO.2.1⟩,?_⟩
  ·exact wq
  ·exact wq
  dsimp only
  repeat' (first|refine vz ?_|(conv=>whnf); first|with_reducible first|refine Sp.mk ?_ ?_|refine br_d (fun _=>?_) fun _=>?_|refine vM (fun _=>?_) fun _=>?_)
  ·rename_i hv
   have e:sayl bs t (i+1)=sayl bs t i ++ [(i:Int)]:=by unfold sayl; rw [cl_t hv]
   refine ⟨i+1,by omega,by omega,?_⟩
   first|(refine ⟨⟨[some 0,some 1,some 4],[],rfl,rfl,?_,?_⟩⟩ <;> (repeat' ((conv=>whnf); first|with_reducible exact True.intro|exact vW|with_reducible refine And.intro ?_ ?_|exact Chk.mk ⟨rfl,by rw [e]; simp⟩|exact Chk.mk (by rw [e]; exact app_ext rfl))) <;> fail)|(refine ⟨⟨[some 0,some 1,some 3],[],rfl,rfl,?_,?_⟩⟩ <;> (repeat' ((conv=>whnf); first|with_reducible exact True.intro|exact vW|with_reducible refine And.intro ?_ ?_|exact Chk.mk ⟨rfl,by rw [e]; simp⟩|exact Chk.mk (by rw [e]; exact app_ext rfl))) <;> fail)
  ·rename_i hv
   have e:sayl bs t (i+1)=sayl bs t i:=by unfold sayl; rw [cl_f hv]
   refine ⟨i+1,by omega,by omega,⟨⟨[some 0,some 1,some 2],[],rfl,rfl,?_,?_⟩⟩⟩
   ·repeat' ((conv=>whnf); first|with_reducible exact True.intro|exact vW|with_reducible refine And.intro ?_ ?_)
    all_goals exact Chk.mk ⟨rfl,by rw [e]⟩
   ·repeat' ((conv=>whnf); first|with_reducible exact True.intro|exact vW|with_reducible refine And.intro ?_ ?_)
    all_goals exact Chk.mk (by rw [e]; exact ⟨rfl,fun _ _=>rfl⟩)
 ·rename_i hi
  have ei:i=(pw p).toNat:=by omega
  subst ei
  have hlc:=least_asc (q:=fun c=>says bs c t) (n:=(pw p).toNat) (by omega) (least_some hO)
  rw [show leastF (sayl bs t (pw p).toNat) (pw p).toNat=(sayl bs t (pw p).toNat).filter (lsB (sayl bs t (pw p).toNat)) from least_filter.symm] at h
  refine ⟨Wk.go [(5,slI (sayl bs t (pw p).toNat))] [.box [.int .i64 p,slI bs],.box [slM t]] ⟨⟨[some 0,some 1],[2],rfl,rfl,?_,?_⟩⟩ ?_⟩
  ·repeat' ((conv=>whnf); first|with_reducible exact True.intro|exact vW|with_reducible refine And.intro ?_ ?_)
   all_goals exact Chk.mk ⟨rfl,fun i _=>by dsimp only; (try rw [Nat.zero_add]); try rfl⟩
  ·exact wq
  repeat' (first|refine vz ?_|(conv=>whnf); first|with_reducible first|refine Sp.mk ?_ ?_|refine br_d (fun _=>?_) fun _=>?_|refine vM (fun _=>?_) fun _=>?_)
  refine ⟨sayl bs t (pw p).toNat,?_,⟨hlc⟩,?_⟩
  ·exact wq
  repeat' (first|refine vz ?_|(conv=>whnf); first|with_reducible first|refine Sp.mk ?_ ?_|refine br_d (fun _=>?_) fun _=>?_|refine vM (fun _=>?_) fun _=>?_)
  refine ⟨_,_,[some 0,some 1],[],rfl,rfl,?_,?_,h⟩
  ·exact wq
  ·exact wq
def C333:List AV→(AV→Prop)→Prop:=con (X:=House × List Mark) (fun x=>[enH x.1,slM x.2]) (fun x=>termOk x.1 x.2) fun x K=>K (slI (leastF (sayl x.1.bs x.2 (pw x.1.p).toNat) (pw x.1.p).toNat))
theorem F333:FF 159 C333:=by
 refine fitX [] (by simp) [(188,C335)] (by simp only [List.mem_cons,List.not_mem_nil,or_false]; rintro _ rfl <;> first|exact F335) Tryz.f159 ⟨rfl,by decide +kernel,by decide +kernel⟩ (by intro x K K2 hk h; (try dsimp only at h ⊢); intros; apply hk; first|exact h|(apply h <;> assumption)) ?_
 rintro ⟨⟨p,bs⟩,t⟩ K hO h
 refine ⟨Nat.le_of_ble_eq_true rfl,?_⟩
 dsimp only [enH] at h hO ⊢
 repeat' (first|refine vz ?_|(conv=>whnf); first|with_reducible first|refine Sp.mk ?_ ?_|refine br_d (fun _=>?_) fun _=>?_|refine vM (fun _=>?_) fun _=>?_)
 refine ⟨_,_,[0,1],[],rfl,?_,?_,⟨p,bs,t⟩,rfl,rfl,⟨hO⟩,?_⟩
 ·exact wq
 ·exact wq
 dsimp only
 repeat' (first|refine vz ?_|(conv=>whnf); first|with_reducible first|refine Sp.mk ?_ ?_|refine br_d (fun _=>?_) fun _=>?_|refine vM (fun _=>?_) fun _=>?_)
 exact h
end Go.Proofs.YtapeebjjljohdaaGreatDoor.Vc
end
section
/- Part XJ: what a deed makes of a place, by the implementation. -/
namespace Go.Proofs.YtapeebjjljohdaaGreatDoor.Vc
open Go.Proofs
set_option maxRecDepth 10000
set_option maxHeartbeats 4000000
def C266:List AV→(AV→Prop)→Prop:=con (X:=Pc) (fun x=>[enPl x.x,.int .i64 x.r,.int .i64 x.c]) (fun x=>placeI x.x∧placeOk x.x∧i64r x.r∧i64r x.c) fun x K=>K (.bool (consR x.x x.r x.c))
theorem F266:FF 140 C266:=by
 refine fitE [(84,C54),(120,C176),(181,C39)] (by simp only [List.mem_cons,List.not_mem_nil,or_false]; rintro _ (rfl|rfl|rfl) <;> first|exact F54|exact F176|exact F39) Tryz.f140 ⟨rfl,by decide +kernel,by decide +kernel⟩ (fun _ _ _ hk h=>hk _ h) ?_
 rintro ⟨⟨p,bs,rs⟩,r,c⟩ K ⟨hI,hO,hr,hc⟩ h
 refine ⟨Nat.le_of_ble_eq_true rfl,?_⟩
 have hI1:=hI.1
 have hI2:=hI.2.1
 have hI3:=hI.2.2
 have hp:=hI.1.1.1
 unfold consR at h
 dsimp only [enPl,plC] at h hr hc hI2 hI3 hp ⊢
 by_cases hin:0≤r∧r<rs.length
 ·rw [if_pos hin] at h
  have hr2:r.toNat<rs.length:=by omega
  obtain ⟨t,e'⟩:=bad_term (hO.2.2 _ (getD_mem' (l:=rs) (i:=r.toNat) (d:=⟨#[]⟩) hr2))
  rw [e'] at h
  dsimp only at h
  obtain ⟨ht,hOt⟩:=rdT_termI hI1 e'
  repeat' (first|refine vz ?_|(conv=>whnf); first|with_reducible first|refine Sp.mk ?_ ?_|refine br_d (fun _=>?_) fun _=>?_|refine vM (fun _=>?_) fun _=>?_)
  refine ⟨(p,c),?_,⟨hp,hc⟩,?_⟩
  ·exact wq
  by_cases hcr:crowd p c
  ·rw [decide_eq_true hcr,Bool.true_and] at h
   dsimp only
   rw [decide_eq_true hcr]
   repeat' (first|refine vz ?_|(conv=>whnf); first|with_reducible first|refine Sp.mk ?_ ?_|refine br_d (fun _=>?_) fun _=>?_|refine vM (fun _=>?_) fun _=>?_)
   refine Dr.mk ⟨(.rd 0 (.rd 1 (.rd 2 (.rd 3 (.rd 4 (.rd 5 (.rd 6 (.ef 7 (.rd 8 (.rd 9 (.rd 10 (.rd 11 (.rd 12 .dn))))) .no)))))))),by decide +kernel,?_⟩
   repeat' (first|refine vz ?_|(conv=>whnf); first|with_reducible first|refine Sp.mk ?_ ?_|refine br_d (fun _=>?_) fun _=>?_|refine vM (fun _=>?_) fun _=>?_)
   refine ⟨⟨⟨p,bs⟩,rs.getD r.toNat ⟨#[]⟩⟩,?_,⟨hI1,getD_len hI3 hr2⟩,?_⟩
   ·exact wq
   refine And.intro (fun e=>?_) (fun u e=>?_)
   ·rw [show rdT 49 (Place.h ⟨p,bs,rs⟩) (rs.getD r.toNat ⟨#[]⟩)=none from e] at e'
    cases e'
   ·rw [show rdT 49 (Place.h ⟨p,bs,rs⟩) (rs.getD r.toNat ⟨#[]⟩)=some u from e] at e'
    cases e'
    repeat' (first|refine vz ?_|(conv=>whnf); first|with_reducible first|refine Sp.mk ?_ ?_|refine br_d (fun _=>?_) fun _=>?_|refine vM (fun _=>?_) fun _=>?_)
    refine ⟨⟨p,bs,t,c⟩,?_,⟨sayOk_of' hOt hcr,hOt.2.1⟩,?_⟩
    ·exact wq
    repeat' (first|refine vz ?_|(conv=>whnf); first|with_reducible first|refine Sp.mk ?_ ?_|refine br_d (fun _=>?_) fun _=>?_|refine vM (fun _=>?_) fun _=>?_)
    exact h
  ·rw [decide_eq_false hcr,Bool.false_and] at h
   dsimp only
   rw [decide_eq_false hcr]
   repeat' (first|refine vz ?_|(conv=>whnf); first|with_reducible first|refine Sp.mk ?_ ?_|refine br_d (fun _=>?_) fun _=>?_|refine vM (fun _=>?_) fun _=>?_)
   exact h
 ·rw [if_neg hin] at h
  repeat' (first|refine vz ?_|(conv=>whnf); first|with_reducible first|refine Sp.mk ?_ ?_|refine br_d (fun _=>?_) fun _=>?_|refine vM (fun _=>?_) fun _=>?_)
  all_goals exact h
def npPost (x:Pd) (K:AV→Prop):Prop:=∀ (y:Place) (ok:Bool),(ok=true→y=madeP x.x x.a)→(ok=false→madeP x.x x.a=default)→K (.tup [enPl y,.bool ok])
def C262:List AV→(AV→Prop)→Prop:=con (X:=Pd) (fun x=>[enPl x.x,ded x.a]) (fun x=>placeI x.x∧placeOk x.x∧dedI x.a) npPost
theorem F262:FF 98 C262:=by
 refine fitXE [(140,C266)] (by simp only [List.mem_cons,List.not_mem_nil,or_false]; rintro _ rfl; exact F266) [(77,C157g),(141,C267)] (by simp only [List.mem_cons,List.not_mem_nil,or_false]; rintro _ (rfl|rfl) <;> first|exact F157g|exact F267) Tryz.f98 ⟨rfl,by decide +kernel,by decide +kernel⟩ (fun _ _ _ hk h y ok h1 h2=>hk _ (h y ok h1 h2)) ?_
 rintro ⟨⟨p,bs,rs⟩,⟨k,a,b,w⟩⟩ K ⟨hI,hO,h1,h2,h3,h4⟩ h
 refine ⟨Nat.le_of_ble_eq_true rfl,?_⟩
 have hs1:rs.length≤4:=hO.2.1.2
 have hs2:bs.length≤4:=hO.1.2.1
 unfold npPost at h
 dsimp only [ded,encD,enPl,plC] at h h1 h2 h3 h4 ⊢
 repeat' (first|refine vz ?_|(conv=>whnf); first|with_reducible first|refine Sp.mk ?_ ?_|refine br_d (fun _=>?_) fun _=>?_|refine vM (fun _=>?_) fun _=>?_)
 refine ⟨_,_,[],[],rfl,?_,?_,⟨p,bs,rs⟩,rfl,rfl,⟨by dsimp only; omega,by dsimp only; omega⟩,?_⟩
 ·exact wq
 ·exact wq
 dsimp only [plG,plO]
 have y1:=ext_sym (ext_push (enc:=encI) (d:=0) (l:=bs) (x:=a) (g:=fun i=>(fun i=>[[AV.int .i64 a]].getD i [.int .i64 0]) (0+i)) rfl)
 have y2:=ext_sym (ext_push (enc:=encS) (d:=⟨#[]⟩) (l:=rs) (x:=w) (g:=fun i=>(fun i=>[[AV.str w]].getD i [.str ⟨#[]⟩]) (0+i)) rfl)
 repeat' (first|refine vz ?_|(conv=>whnf); first|with_reducible first|refine Sp.mk ?_ ?_|refine br_d (fun _=>?_) fun _=>?_|refine vM (fun _=>?_) fun _=>?_)
 ·rename_i q1
  refine Dr.mk ⟨(.rd 0 (.rd 1 (.rd 2 (.rd 3 (.rd 4 (.rd 5 (.rd 6 (.rd 7 (.rd 8 (.ef 9 (.rd 10 .dn) .no)))))))))),by decide +kernel,?_⟩
  repeat' (first|refine vz ?_|(conv=>whnf); first|with_reducible first|refine Sp.mk ?_ ?_|refine br_d (fun _=>?_) fun _=>?_|refine vM (fun _=>?_) fun _=>?_)
  ·rename_i q2
   by_cases hw:w=⟨#[]⟩
   ·rw [decide_eq_true hw]
    refine ⟨_,?_,h ⟨p,bs++[a],rs⟩ true (fun q=>(made_0 (x:=⟨p,bs,rs⟩) q1 q2 hw).symm) (fun q=>(by cases q))⟩
    repeat' ((conv=>whnf); first|with_reducible exact True.intro|exact vW|with_reducible refine And.intro ?_ ?_)
    all_goals first|exact Chk.mk ⟨rfl,fun i _=>by dsimp only; rw [Nat.zero_add]⟩|exact Chk.mk y1
   ·rw [decide_eq_false hw]
    refine ⟨_,?_,h ⟨p,bs++[a],rs⟩ false (fun q=>(by cases q)) (fun q=>(made_0n q1 fun g=>hw g.2))⟩
    repeat' ((conv=>whnf); first|with_reducible exact True.intro|exact vW|with_reducible refine And.intro ?_ ?_)
    all_goals first|exact Chk.mk ⟨rfl,fun i _=>by dsimp only; rw [Nat.zero_add]⟩|exact Chk.mk y1
  ·rename_i q2
   refine ⟨_,?_,h ⟨p,bs++[a],rs⟩ false (fun q=>(by cases q)) (fun q=>(made_0n q1 fun g=>q2 g.1))⟩
   repeat' ((conv=>whnf); first|with_reducible exact True.intro|exact vW|with_reducible refine And.intro ?_ ?_)
   all_goals first|exact Chk.mk ⟨rfl,fun i _=>by dsimp only; rw [Nat.zero_add]⟩|exact Chk.mk y1
 ·rename_i q0 q1
  refine Dr.mk ⟨(.rd 0 (.rd 1 (.rd 2 (.rd 3 (.rd 4 (.rd 5 (.rd 6 (.rd 7 (.rd 8 (.ef 9 (.rd 10 .dn) .no)))))))))),by decide +kernel,?_⟩
  repeat' (first|refine vz ?_|(conv=>whnf); first|with_reducible first|refine Sp.mk ?_ ?_|refine br_d (fun _=>?_) fun _=>?_|refine vM (fun _=>?_) fun _=>?_)
  ·rename_i q2
   by_cases hb:b=0
   ·rw [decide_eq_true hb]
    refine ⟨_,?_,h ⟨p,bs,rs++[w]⟩ true (fun q=>(made_1 (x:=⟨p,bs,rs⟩) q1 q2 hb).symm) (fun q=>(by cases q))⟩
    repeat' ((conv=>whnf); first|with_reducible exact True.intro|exact vW|with_reducible refine And.intro ?_ ?_)
    all_goals first|exact Chk.mk ⟨rfl,fun i _=>by dsimp only; rw [Nat.zero_add]⟩|exact Chk.mk y2
   ·rw [decide_eq_false hb]
    refine ⟨_,?_,h ⟨p,bs,rs++[w]⟩ false (fun q=>(by cases q)) (fun q=>(made_1n q1 fun g=>hb g.2))⟩
    repeat' ((conv=>whnf); first|with_reducible exact True.intro|exact vW|with_reducible refine And.intro ?_ ?_)
    all_goals first|exact Chk.mk ⟨rfl,fun i _=>by dsimp only; rw [Nat.zero_add]⟩|exact Chk.mk y2
  ·rename_i q2
   refine ⟨_,?_,h ⟨p,bs,rs++[w]⟩ false (fun q=>(by cases q)) (fun q=>(made_1n q1 fun g=>q2 g.1))⟩
   repeat' ((conv=>whnf); first|with_reducible exact True.intro|exact vW|with_reducible refine And.intro ?_ ?_)
   all_goals first|exact Chk.mk ⟨rfl,fun i _=>by dsimp only; rw [Nat.zero_add]⟩|exact Chk.mk y2
 ·rename_i q0 q1 q2
  refine ⟨⟨⟨p,bs,rs⟩,a,b⟩,?_,⟨hI,hO,h2,h3⟩,?_⟩
  ·repeat' ((conv=>whnf); first|with_reducible exact True.intro|exact vW|with_reducible refine And.intro ?_ ?_)
   all_goals exact Chk.mk ⟨rfl,fun i _=>by dsimp only; rw [Nat.zero_add]⟩
  dsimp only
  cases hc:consR ⟨p,bs,rs⟩ a b
  ·repeat' (first|refine vz ?_|(conv=>whnf); first|with_reducible first|refine Sp.mk ?_ ?_|refine br_d (fun _=>?_) fun _=>?_|refine vM (fun _=>?_) fun _=>?_)
   refine ⟨_,?_,h ⟨p,bs,rs⟩ false (fun q=>(by cases q)) (fun q=>(made_2n q2 hc))⟩
   repeat' ((conv=>whnf); first|with_reducible exact True.intro|exact vW|with_reducible refine And.intro ?_ ?_)
   all_goals first|exact Chk.mk ⟨rfl,fun i _=>by dsimp only; rw [Nat.zero_add]⟩|exact Chk.mk y2
  ·have hr:=consR_in hc
   dsimp only at hr
   have y3:=ext_set (x:=w) hr.2
   repeat' (first|refine vz ?_|(conv=>whnf); first|with_reducible first|refine Sp.mk ?_ ?_|refine br_d (fun _=>?_) fun _=>?_|refine vM (fun _=>?_) fun _=>?_)
   refine ⟨_,?_,h ⟨p,bs,rs.set a.toNat w⟩ true (fun q=>(made_2 (x:=⟨p,bs,rs⟩) q2 hc).symm) (fun q=>(by cases q))⟩
   repeat' ((conv=>whnf); first|with_reducible exact True.intro|exact vW|with_reducible refine And.intro ?_ ?_)
   all_goals first|exact Chk.mk ⟨rfl,fun i _=>by dsimp only; rw [Nat.zero_add]⟩|exact Chk.mk y3
 ·rename_i q0 q1 q2 q3
  refine ⟨⟨⟨p,bs,rs⟩,a,b⟩,?_,⟨hI,hO,h2,h3⟩,?_⟩
  ·repeat' ((conv=>whnf); first|with_reducible exact True.intro|exact vW|with_reducible refine And.intro ?_ ?_)
   all_goals exact Chk.mk ⟨rfl,fun i _=>by dsimp only; rw [Nat.zero_add]⟩
  dsimp only
  cases hc:consR ⟨p,bs,rs⟩ a b
  ·repeat' (first|refine vz ?_|(conv=>whnf); first|with_reducible first|refine Sp.mk ?_ ?_|refine br_d (fun _=>?_) fun _=>?_|refine vM (fun _=>?_) fun _=>?_)
   refine ⟨_,?_,h ⟨p,bs,rs⟩ false (fun q=>(by cases q)) (fun q=>(made_3n q3 fun g=>by rw [hc] at g; cases g.2))⟩
   repeat' ((conv=>whnf); first|with_reducible exact True.intro|exact vW|with_reducible refine And.intro ?_ ?_)
   all_goals first|exact Chk.mk ⟨rfl,fun i _=>by dsimp only; rw [Nat.zero_add]⟩|exact Chk.mk y2
  ·have hr:=consR_in hc
   dsimp only at hr
   repeat' (first|refine vz ?_|(conv=>whnf); first|with_reducible first|refine Sp.mk ?_ ?_|refine br_d (fun _=>?_) fun _=>?_|refine vM (fun _=>?_) fun _=>?_)
   refine ⟨_,_,[4],[],rfl,?_,?_,⟨rs,a.toNat⟩,rfl,rfl,⟨hr.2⟩,?_⟩
   ·repeat' ((conv=>whnf); first|with_reducible exact True.intro|exact vW|with_reducible refine And.intro ?_ ?_)
    all_goals exact Chk.mk (by dsimp only; omega)
   ·exact wq
   dsimp only
   have y4:rs.length-1=(rs.take a.toNat ++ rs.drop (a.toNat+1)).length∧∀ i,i<rs.length-1→(fun i=>encS ((rs.take a.toNat ++ rs.drop (a.toNat+1)).getD i ⟨#[]⟩)) (0+i)=encS ((rs.take a.toNat ++ rs.drop (a.toNat+1)).getD i ⟨#[]⟩):=⟨by rw [List.length_append,List.length_take,List.length_drop]; omega,fun i _=>by dsimp only; rw [Nat.zero_add]⟩
   repeat' (first|refine vz ?_|(conv=>whnf); first|with_reducible first|refine Sp.mk ?_ ?_|refine br_d (fun _=>?_) fun _=>?_|refine vM (fun _=>?_) fun _=>?_)
   refine Dr.mk ⟨(.rd 0 (.rd 1 (.rd 2 (.rd 3 (.ef 4 (.rd 5 .dn) .no))))),by decide +kernel,?_⟩
   repeat' (first|refine vz ?_|(conv=>whnf); first|with_reducible first|refine Sp.mk ?_ ?_|refine br_d (fun _=>?_) fun _=>?_|refine vM (fun _=>?_) fun _=>?_)
   by_cases hw:w=⟨#[]⟩
   ·rw [decide_eq_true hw]
    refine ⟨_,?_,h ⟨p,bs,rs.take a.toNat ++ rs.drop (a.toNat+1)⟩ true (fun q=>(made_3 (x:=⟨p,bs,rs⟩) q3 hw hc).symm) (fun q=>(by cases q))⟩
    repeat' ((conv=>whnf); first|with_reducible exact True.intro|exact vW|with_reducible refine And.intro ?_ ?_)
    all_goals first|exact Chk.mk ⟨rfl,fun i _=>by dsimp only; rw [Nat.zero_add]⟩|exact Chk.mk y4
   ·rw [decide_eq_false hw]
    refine ⟨_,?_,h ⟨p,bs,rs.take a.toNat ++ rs.drop (a.toNat+1)⟩ false (fun q=>(by cases q)) (fun q=>(made_3n (x:=⟨p,bs,rs⟩) q3 fun g=>hw g.1))⟩
    repeat' ((conv=>whnf); first|with_reducible exact True.intro|exact vW|with_reducible refine And.intro ?_ ?_)
    all_goals first|exact Chk.mk ⟨rfl,fun i _=>by dsimp only; rw [Nat.zero_add]⟩|exact Chk.mk y4
 ·rename_i q0 q1 q2 q3
  refine ⟨_,?_,h ⟨p,bs,rs⟩ false (fun q=>(by cases q)) (fun q=>(made_n q0 q1 q2 q3))⟩
  repeat' ((conv=>whnf); first|with_reducible exact True.intro|exact vW|with_reducible refine And.intro ?_ ?_)
  all_goals first|exact Chk.mk ⟨rfl,fun i _=>by dsimp only; rw [Nat.zero_add]⟩|exact Chk.mk y1
end Go.Proofs.YtapeebjjljohdaaGreatDoor.Vc
end
section
/- Part QI: questions, by the implementation. -/
namespace Go.Proofs.YtapeebjjljohdaaGreatDoor.Vc
open Go.Proofs
set_option maxRecDepth 10000
set_option maxHeartbeats 4000000
def C319:List AV→(AV→Prop)→Prop:=con (X:=Bool) (fun b=>[.bool b]) (fun _=>True) fun b K=>K (.str (yn b))
theorem F319:FF 155 C319:=by
 refine fitE [] (by simp) Tryz.f155 ⟨rfl,by decide +kernel,by decide +kernel⟩ (fun _ _ _ hk h=>hk _ h) ?_
 rintro b K _ h
 refine ⟨Nat.le_of_ble_eq_true rfl,?_⟩
 unfold yn at h
 cases b
 ·rw [if_neg Bool.false_ne_true] at h
  repeat' (first|refine vz ?_|(conv=>whnf); first|with_reducible first|refine Sp.mk ?_ ?_|refine br_d (fun _=>?_) fun _=>?_|refine vM (fun _=>?_) fun _=>?_)
  exact h
 ·rw [if_pos rfl] at h
  repeat' (first|refine vz ?_|(conv=>whnf); first|with_reducible first|refine Sp.mk ?_ ?_|refine br_d (fun _=>?_) fun _=>?_|refine vM (fun _=>?_) fun _=>?_)
  exact h
structure Ask where
 p:Int
 bs:List Int
 t:List Mark
 w:ByteArray
theorem least_small {p:Int} {bs:List Int} {t:List Mark} (hO:termOk ⟨p,bs⟩ t):smallL (leastF (sayl bs t (pw p).toNat) (pw p).toNat):=by
 have pl:2≤pw p∧pw p≤64:=pw_le hO.1.1
 refine ⟨?_,fun n hn=>?_⟩
 ·have:(leastF (sayl bs t (pw p).toNat) (pw p).toNat).length≤(pw p).toNat:=cl_le _ _
  omega
 ·have:=(mem_cl.1 hn).1
  omega
theorem idle_le {p:Int} {bs:List Int} {t:List Mark} (hO:termOk ⟨p,bs⟩ t) (n:Nat):0≤idleF bs t n p.toNat∧idleF bs t n p.toNat≤64:=by
 have h6:p≤6:=hO.1.1.2
 have:=idle_lt bs t n p.toNat (by omega)
 have h2:2 ^ p.toNat≤2 ^ 6:=Nat.pow_le_pow_right (by decide) (by omega)
 have e:(2:Nat) ^ 6=64:=by decide
 omega
theorem need_le {p:Int} {bs:List Int} {t:List Mark} (hO:termOk ⟨p,bs⟩ t):0≤needF p bs t p.toNat∧needF p bs t p.toNat≤64:=by
 have h6:p≤6:=hO.1.1.2
 have:=need_lt (p:=p) (bs:=bs) (t:=t) p.toNat (by omega)
 have h2:2 ^ p.toNat≤2 ^ 6:=Nat.pow_le_pow_right (by decide) (by omega)
 have e:(2:Nat) ^ 6=64:=by decide
 omega
theorem count_le {p:Int} {bs:List Int} {t:List Mark} (hO:termOk ⟨p,bs⟩ t):(sayl bs t (pw p).toNat).length≤64:=by
 have pl:2≤pw p∧pw p≤64:=pw_le hO.1.1
 have:(sayl bs t (pw p).toNat).length≤(pw p).toNat:=cl_le _ _
 omega
def C317:List AV→(AV→Prop)→Prop:=con (X:=Ask) (fun x=>[house x.p x.bs,slM x.t,.str x.w]) (fun x=>termI ⟨x.p,x.bs⟩ x.t∧termOk ⟨x.p,x.bs⟩ x.t) fun x K=>K (.str (askO x.p x.bs x.t x.w))
theorem F317:FF 125 C317:=by
 refine fitE [(159,C333),(95,C182),(160,C342),(94,C101),(161,C343),(162,C24),(163,C46),(154,C192),(164,C344),(155,C319),(165,C345)] (by simp only [List.mem_cons,List.not_mem_nil,or_false]; rintro _ (rfl|rfl|rfl|rfl|rfl|rfl|rfl|rfl|rfl|rfl|rfl) <;> first|exact F333|exact F182|exact F342|exact F101|exact F343|exact F24|exact F46|exact F192|exact F344|exact F319|exact F345) Tryz.f125 ⟨rfl,by decide +kernel,by decide +kernel⟩ (fun _ _ _ hk h=>hk _ h) ?_
 rintro ⟨p,bs,t,w⟩ K ⟨hI,hO⟩ h
 refine ⟨Nat.le_of_ble_eq_true rfl,?_⟩
 dsimp only at h hI hO ⊢
 have i1:=idle_le hO (pw p).toNat
 have i2:=need_le hO
 have i3:=count_le hO
 unfold askO at h
 repeat' (first|refine vz ?_|(conv=>whnf); first|with_reducible first|refine Sp.mk ?_ ?_|refine br_d (fun _=>?_) fun _=>?_|refine vM (fun _=>?_) fun _=>?_)
 ·rename_i q1
  rw [if_pos q1] at h
  refine ⟨(⟨p,bs⟩,t),?_,⟨hO⟩,?_⟩
  ·exact wq
  dsimp only
  repeat' (first|refine vz ?_|(conv=>whnf); first|with_reducible first|refine Sp.mk ?_ ?_|refine br_d (fun _=>?_) fun _=>?_|refine vM (fun _=>?_) fun _=>?_)
  refine ⟨_,?_,⟨least_small hO⟩,?_⟩
  ·exact wq
  repeat' (first|refine vz ?_|(conv=>whnf); first|with_reducible first|refine Sp.mk ?_ ?_|refine br_d (fun _=>?_) fun _=>?_|refine vM (fun _=>?_) fun _=>?_)
  exact h
 ·rename_i q1 q2
  rw [if_neg q1,if_pos q2] at h
  refine ⟨(⟨p,bs⟩,t),?_,⟨hI,hO⟩,?_⟩
  ·exact wq
  dsimp only
  repeat' (first|refine vz ?_|(conv=>whnf); first|with_reducible first|refine Sp.mk ?_ ?_|refine br_d (fun _=>?_) fun _=>?_|refine vM (fun _=>?_) fun _=>?_)
  refine ⟨_,?_,⟨(by omega:0≤((sayl bs t (pw p).toNat).length:Int)∧((sayl bs t (pw p).toNat).length:Int)≤9223372036854775807)⟩,?_⟩
  ·exact wq
  repeat' (first|refine vz ?_|(conv=>whnf); first|with_reducible first|refine Sp.mk ?_ ?_|refine br_d (fun _=>?_) fun _=>?_|refine vM (fun _=>?_) fun _=>?_)
  exact h
 ·rename_i q1 q2 q3
  rw [if_neg q1,if_neg q2,if_pos q3] at h
  refine ⟨(⟨p,bs⟩,t),?_,⟨hI,hO⟩,?_⟩
  ·exact wq
  dsimp only
  repeat' (first|refine vz ?_|(conv=>whnf); first|with_reducible first|refine Sp.mk ?_ ?_|refine br_d (fun _=>?_) fun _=>?_|refine vM (fun _=>?_) fun _=>?_)
  refine ⟨_,?_,⟨(by omega:0≤needF p bs t p.toNat∧needF p bs t p.toNat≤9223372036854775807)⟩,?_⟩
  ·exact wq
  repeat' (first|refine vz ?_|(conv=>whnf); first|with_reducible first|refine Sp.mk ?_ ?_|refine br_d (fun _=>?_) fun _=>?_|refine vM (fun _=>?_) fun _=>?_)
  exact h
 ·rename_i q1 q2 q3 q4
  rw [if_neg q1,if_neg q2,if_neg q3,if_pos q4] at h
  refine ⟨(⟨p,bs⟩,t),?_,⟨hI,hO⟩,?_⟩
  ·exact wq
  dsimp only
  repeat' (first|refine vz ?_|(conv=>whnf); first|with_reducible first|refine Sp.mk ?_ ?_|refine br_d (fun _=>?_) fun _=>?_|refine vM (fun _=>?_) fun _=>?_)
  refine ⟨_,?_,⟨(by omega:0≤idleF bs t (pw p).toNat p.toNat∧idleF bs t (pw p).toNat p.toNat≤9223372036854775807)⟩,?_⟩
  ·exact wq
  repeat' (first|refine vz ?_|(conv=>whnf); first|with_reducible first|refine Sp.mk ?_ ?_|refine br_d (fun _=>?_) fun _=>?_|refine vM (fun _=>?_) fun _=>?_)
  exact h
 ·rename_i q1 q2 q3 q4 q5
  rw [if_neg q1,if_neg q2,if_neg q3,if_neg q4,if_pos q5] at h
  have hd:=termOk_dual hO
  refine ⟨⟨p,bs,t⟩,?_,⟨hO⟩,?_⟩
  ·exact wq
  dsimp only
  repeat' (first|refine vz ?_|(conv=>whnf); first|with_reducible first|refine Sp.mk ?_ ?_|refine br_d (fun _=>?_) fun _=>?_|refine vM (fun _=>?_) fun _=>?_)
  refine ⟨⟨bs,dualT bs t⟩,?_,⟨bodies_of hO.1,hd.2.2,hd.2.1⟩,?_⟩
  ·exact wq
  repeat' (first|refine vz ?_|(conv=>whnf); first|with_reducible first|refine Sp.mk ?_ ?_|refine br_d (fun _=>?_) fun _=>?_|refine vM (fun _=>?_) fun _=>?_)
  exact h
 ·rename_i q1 q2 q3 q4 q5 q6
  rw [if_neg q1,if_neg q2,if_neg q3,if_neg q4,if_neg q5,if_pos q6] at h
  refine ⟨(⟨p,bs⟩,t),?_,⟨hI,hO⟩,?_⟩
  ·exact wq
  dsimp only
  repeat' (first|refine vz ?_|(conv=>whnf); first|with_reducible first|refine Sp.mk ?_ ?_|refine br_d (fun _=>?_) fun _=>?_|refine vM (fun _=>?_) fun _=>?_)
  refine ⟨decB p bs t (pw p).toNat,?_,⟨trivial⟩,?_⟩
  ·exact wq
  repeat' (first|refine vz ?_|(conv=>whnf); first|with_reducible first|refine Sp.mk ?_ ?_|refine br_d (fun _=>?_) fun _=>?_|refine vM (fun _=>?_) fun _=>?_)
  exact h
 ·rename_i q1 q2 q3 q4 q5 q6
  rw [if_neg q1,if_neg q2,if_neg q3,if_neg q4,if_neg q5,if_neg q6] at h
  refine ⟨(⟨p,bs⟩,t),?_,⟨hI,hO⟩,?_⟩
  ·exact wq
  dsimp only
  repeat' (first|refine vz ?_|(conv=>whnf); first|with_reducible first|refine Sp.mk ?_ ?_|refine br_d (fun _=>?_) fun _=>?_|refine vM (fun _=>?_) fun _=>?_)
  refine ⟨claB p bs t (pw p).toNat,?_,⟨trivial⟩,?_⟩
  ·exact wq
  repeat' (first|refine vz ?_|(conv=>whnf); first|with_reducible first|refine Sp.mk ?_ ?_|refine br_d (fun _=>?_) fun _=>?_|refine vM (fun _=>?_) fun _=>?_)
  exact h
structure Ask2 where
 p:Int
 bs:List Int
 t:List Mark
 w:ByteArray
 n:Int
theorem swings_sz {p:Int} {bs:List Int} {t:List Mark} {n:Int}:swingsOf ⟨⟨p,bs⟩,t,n⟩=-1∨0≤swingsOf ⟨⟨p,bs⟩,t,n⟩∧swingsOf ⟨⟨p,bs⟩,t,n⟩≤9223372036854775807:=by
 unfold swingsOf
 split
 ·rename_i h
  have pl:2≤pw p∧pw p≤64:=pw_le h.1.1.1
  have:=swl_le bs t n (pw p).toNat
  dsimp only
  right; omega
 ·exact .inl rfl
theorem pivots_sz {p:Int} {bs:List Int} {t:List Mark} {n:Int}:pivotsOf ⟨⟨p,bs⟩,t,n⟩=-1∨0≤pivotsOf ⟨⟨p,bs⟩,t,n⟩∧pivotsOf ⟨⟨p,bs⟩,t,n⟩≤9223372036854775807:=by
 unfold pivotsOf
 split
 ·rename_i h
  have pl:2≤pw p∧pw p≤64:=pw_le h.1.1.1
  have h6:p≤6:=h.1.1.1.2
  have hl:=swl_le bs t n (pw p).toNat
  have:=sumO_le (p:=p) h6 (swl bs t n (pw p).toNat) fun c hc=>by have:=swl_lt bs t n (pw p).toNat c hc; omega
  dsimp only
  right; omega
 ·exact .inl rfl
def C318:List AV→(AV→Prop)→Prop:=con (X:=Ask2) (fun x=>[house x.p x.bs,slM x.t,.str x.w,.int .i64 x.n]) (fun x=>(termI ⟨x.p,x.bs⟩ x.t∧termOk ⟨x.p,x.bs⟩ x.t)∧i64r x.n) fun x K=>K (.str (askT x.p x.bs x.t x.w x.n))
theorem F318:FF 124 C318:=by
 refine fitE [(156,C28),(155,C319),(157,C20),(158,C26),(94,C101)] (by simp only [List.mem_cons,List.not_mem_nil,or_false]; rintro _ (rfl|rfl|rfl|rfl|rfl) <;> first|exact F28|exact F319|exact F20|exact F26|exact F101) Tryz.f124 ⟨rfl,by decide +kernel,by decide +kernel⟩ (fun _ _ _ hk h=>hk _ h) ?_
 rintro ⟨p,bs,t,w,n⟩ K ⟨⟨hI,hO⟩,hn⟩ h
 refine ⟨Nat.le_of_ble_eq_true rfl,?_⟩
 dsimp only at h hI hO hn ⊢
 unfold askT at h
 repeat' (first|refine vz ?_|(conv=>whnf); first|with_reducible first|refine Sp.mk ?_ ?_|refine br_d (fun _=>?_) fun _=>?_|refine vM (fun _=>?_) fun _=>?_)
 ·rename_i q1
  rw [if_pos q1] at h
  refine ⟨⟨p,bs,t,n⟩,?_,⟨hI,hn⟩,?_⟩
  ·exact wq
  dsimp only
  rw [decide_eq_true hO,Bool.true_and]
  repeat' (first|refine vz ?_|(conv=>whnf); first|with_reducible first|refine Sp.mk ?_ ?_|refine br_d (fun _=>?_) fun _=>?_|refine vM (fun _=>?_) fun _=>?_)
  refine ⟨decide (crowd p n) && says bs n t,?_,⟨trivial⟩,?_⟩
  ·exact wq
  repeat' (first|refine vz ?_|(conv=>whnf); first|with_reducible first|refine Sp.mk ?_ ?_|refine br_d (fun _=>?_) fun _=>?_|refine vM (fun _=>?_) fun _=>?_)
  exact h
 ·rename_i q1 q2
  rw [if_neg q1,if_pos q2] at h
  have hm:=@swings_sz p bs t n
  refine ⟨⟨⟨p,bs⟩,t,n⟩,?_,⟨hI,hn⟩,?_⟩
  ·exact wq
  dsimp only
  generalize swingsOf ⟨⟨p,bs⟩,t,n⟩=m at hm h ⊢
  repeat' (first|refine vz ?_|(conv=>whnf); first|with_reducible first|refine Sp.mk ?_ ?_|refine br_d (fun _=>?_) fun _=>?_|refine vM (fun _=>?_) fun _=>?_)
  ·rename_i e
   rw [numN,if_pos (by omega)] at h
   exact h
  ·rename_i e
   have hm2:=hm.resolve_left e
   rw [numN,if_neg (by omega)] at h
   refine ⟨m,?_,⟨hm2⟩,?_⟩
   ·exact wq
   repeat' (first|refine vz ?_|(conv=>whnf); first|with_reducible first|refine Sp.mk ?_ ?_|refine br_d (fun _=>?_) fun _=>?_|refine vM (fun _=>?_) fun _=>?_)
   exact h
 ·rename_i q1 q2
  rw [if_neg q1,if_neg q2] at h
  have hm:=@pivots_sz p bs t n
  refine ⟨⟨⟨p,bs⟩,t,n⟩,?_,⟨hI,hn⟩,?_⟩
  ·exact wq
  dsimp only
  generalize pivotsOf ⟨⟨p,bs⟩,t,n⟩=m at hm h ⊢
  repeat' (first|refine vz ?_|(conv=>whnf); first|with_reducible first|refine Sp.mk ?_ ?_|refine br_d (fun _=>?_) fun _=>?_|refine vM (fun _=>?_) fun _=>?_)
  ·rename_i e
   rw [numN,if_pos (by omega)] at h
   exact h
  ·rename_i e
   have hm2:=hm.resolve_left e
   rw [numN,if_neg (by omega)] at h
   refine ⟨m,?_,⟨hm2⟩,?_⟩
   ·exact wq
   repeat' (first|refine vz ?_|(conv=>whnf); first|with_reducible first|refine Sp.mk ?_ ?_|refine br_d (fun _=>?_) fun _=>?_|refine vM (fun _=>?_) fun _=>?_)
   exact h
def C347:List AV→(AV→Prop)→Prop:=con (X:=List ByteArray × ByteArray) (fun x=>[slS x.1,.str x.2]) (fun x=>x.1.length<9223372036854775808) fun x K=>K (.bool (decide (x.2∈x.1)))
theorem F347:FF 123 C347:=by
 refine fitE [(122,C264)] (by simp only [List.mem_cons,List.not_mem_nil,or_false]; rintro _ rfl <;> first|exact F264) Tryz.f123 ⟨rfl,by decide +kernel,by decide +kernel⟩ (fun _ _ _ hk h=>hk _ h) ?_
 rintro ⟨l,x⟩ K hl h
 refine ⟨Nat.le_of_ble_eq_true rfl,?_⟩
 dsimp only at h hl ⊢
 repeat' (first|refine vz ?_|(conv=>whnf); first|with_reducible first|refine Sp.mk ?_ ?_|refine br_d (fun _=>?_) fun _=>?_|refine vM (fun _=>?_) fun _=>?_)
 refine ⟨(l,x),?_,⟨hl⟩,?_⟩
 ·exact wq
 intro i g1 g2 g3 g4
 dsimp only at g1 g2 g3 g4 ⊢
 have e:decide (x∈l)=decide (i≥0):=by
  refine decide_eq_decide.2 ⟨fun hx=>?_,fun hi=>?_⟩
  ·by_cases hi:i≥0
   ·exact hi
   ·exfalso
    obtain ⟨j,hj,rfl⟩:=List.getElem_of_mem hx
    have:=g3 (by omega) j hj
    rw [List.getD_eq_getElem?_getD,List.getElem?_eq_getElem hj] at this
    exact this rfl
  ·rw [← g4 hi]
   exact getD_mem' (by omega)
 rw [e] at h
 repeat' (first|refine vz ?_|(conv=>whnf); first|with_reducible first|refine Sp.mk ?_ ?_|refine br_d (fun _=>?_) fun _=>?_|refine vM (fun _=>?_) fun _=>?_)
 exact h
end Go.Proofs.YtapeebjjljohdaaGreatDoor.Vc
end
section
/- Part QJ: what is asked about a place, by the implementation. -/
namespace Go.Proofs.YtapeebjjljohdaaGreatDoor.Vc
open Go.Proofs
set_option maxRecDepth 10000
set_option maxHeartbeats 4000000
structure Ps where
 x:Place
 s:ByteArray
theorem ones7 (z:List AV):∀ i,i<7→[[AV.str wLeast],[.str wCount],[.str wNeeded],[.str wIdle],[.str wDual],[.str wDecisive],[.str wClash]].getD (0+i) z=encS (onesW.getD i ⟨#[]⟩):=fun i hi=>by
 rcases (show i=0∨i=1∨i=2∨i=3∨i=4∨i=5∨i=6 by omega) with rfl|rfl|rfl|rfl|rfl|rfl|rfl <;> rfl
theorem twos3 (z:List AV):∀ i,i<3→[[AV.str wConsent],[.str wSwings],[.str wPivots]].getD (0+i) z=encS (twosW.getD i ⟨#[]⟩):=fun i hi=>by
 rcases (show i=0∨i=1∨i=2 by omega) with rfl|rfl|rfl <;> rfl
theorem ones_twos {w:ByteArray} (h:w∈onesW):¬ w∈twosW:=by
 have key:∀ v∈onesW,¬ v∈twosW:=by decide
 exact key w h
theorem askL_what {x:Place} {L:List ByteArray} (h1:L.length=2→L.getD 0 ⟨#[]⟩∈onesW→isNum (L.getD 1 ⟨#[]⟩)=false) (h2:L.length=3→L.getD 0 ⟨#[]⟩∈twosW→isNum (L.getD 1 ⟨#[]⟩)=false∨isNum (L.getD 2 ⟨#[]⟩)=false):askL x L=wWhat:=by
 unfold askL
 split
 ·rename_i q
  unfold askOne
  split
  ·rename_i g
   have:=h1 q.1 g
   rw [digV_isNum.1 q.2] at this
   cases this
  ·rfl
 ·split
  ·rename_i q
   unfold askTwo
   split
   ·rename_i g
    rcases h2 q.1 g with e|e
    ·rw [digV_isNum.1 q.2.1] at e; cases e
    ·rw [digV_isNum.1 q.2.2] at e; cases e
   ·rfl
  ·rfl
theorem askL_one {x:Place} {L:List ByteArray} (hl:L.length=2) (hw:L.getD 0 ⟨#[]⟩∈onesW) (hn:isNum (L.getD 1 ⟨#[]⟩)=true):askL x L=if digV (L.getD 1 ⟨#[]⟩)<x.rules.length then askO x.p x.bs (termR x (digV (L.getD 1 ⟨#[]⟩)).toNat) (L.getD 0 ⟨#[]⟩) else wNone:=by
 unfold askL
 rw [if_pos ⟨hl,digV_isNum.2 hn⟩]
 unfold askOne
 rw [if_pos hw]
theorem askL_two {x:Place} {L:List ByteArray} (hl:L.length=3) (hw:L.getD 0 ⟨#[]⟩∈twosW) (hn:isNum (L.getD 1 ⟨#[]⟩)=true) (hm:isNum (L.getD 2 ⟨#[]⟩)=true):askL x L=if digV (L.getD 1 ⟨#[]⟩)<x.rules.length then askT x.p x.bs (termR x (digV (L.getD 1 ⟨#[]⟩)).toNat) (L.getD 0 ⟨#[]⟩) (digV (L.getD 2 ⟨#[]⟩)) else wNone:=by
 unfold askL
 rw [if_neg (fun q=>by omega),if_pos ⟨hl,digV_isNum.2 hn,digV_isNum.2 hm⟩]
 unfold askTwo
 rw [if_pos hw]
theorem digV_read {s:ByteArray} {v:Int} (hn:isNum s=true) (hv:∀ n:Nat,n<1000000→s=num n→v=n):v=digV s:=by
 obtain ⟨n,h1,h2⟩:=isNum_of hn
 rw [hv n h1 h2,h2,digV_num h1]
theorem fun_ext {f g:Nat→List AV} {i:Nat} (hg:g 0=f i):i+1=i+1∧∀ j,j<i+1→f j=appF i f g j:=⟨rfl,fun j hj=>by
 unfold appF
 cases hb:Nat.blt j i with
 |true=>rfl
 |false =>
  have:¬ j<i:=fun h=>by
   have:Nat.blt j i=true:=Nat.ble_eq_true_of_le h
   rw [this] at hb; cases hb
  obtain rfl:j=i:=by omega
  rw [Nat.sub_self]
  exact hg.symm⟩
def C316:List AV→(AV→Prop)→Prop:=con (X:=Ps) (fun x=>[enPl x.x,.str x.s]) (fun x=>(placeI x.x∧placeOk x.x)∧x.s.size≤1048576) fun x K=>K (.str (askD x.x x.s))
theorem F316:FF 79 C316:=by
 refine fitE [(54,C166),(85,C211),(123,C347),(86,C213),(120,C176),(124,C318),(125,C317)] (by simp only [List.mem_cons,List.not_mem_nil,or_false]; rintro _ (rfl|rfl|rfl|rfl|rfl|rfl|rfl) <;> first|exact F166|exact F211|exact F347|exact F213|exact F176|exact F318|exact F317) Tryz.f79 ⟨rfl,by decide +kernel,by decide +kernel⟩ (fun _ _ _ hk h=>hk _ h) ?_
 rintro ⟨⟨p,bs,rs⟩,s⟩ K ⟨⟨hI,hO⟩,hs⟩ h
 refine ⟨Nat.le_of_ble_eq_true rfl,?_⟩
 have hI1:=hI.1
 have hI2:=hI.2.1
 have hI3:=hI.2.2
 dsimp only [enPl,plC] at h hs hI2 hI3 ⊢
 unfold askD at h
 repeat' (first|refine vz ?_|(conv=>whnf); first|with_reducible first|refine Sp.mk ?_ ?_|refine br_d (fun _=>?_) fun _=>?_|refine vM (fun _=>?_) fun _=>?_)
 ·rename_i q
  rw [if_pos q] at h
  refine ⟨⟨p,bs,rs⟩,?_,⟨hO⟩,?_⟩
  ·exact wq
  repeat' (first|refine vz ?_|(conv=>whnf); first|with_reducible first|refine Sp.mk ?_ ?_|refine br_d (fun _=>?_) fun _=>?_|refine vM (fun _=>?_) fun _=>?_)
  exact h
 rename_i q
 rw [if_neg q] at h
 refine ⟨(s,32),?_,⟨by dsimp only; omega⟩,?_⟩
 ·exact wq
 have hl:=cutB_len s 32
 have hlm:∀ w∈cutB s 32,w.size≤s.size:=fun w hw=>cutB_mem (c:=32) hw
 dsimp only
 generalize cutB s 32=L at h hl hlm ⊢
 have hlt:L.length<9223372036854775808:=by omega
 have hL0:(L.getD 0 ⟨#[]⟩).size≤s.size:=hlm _ (getD_mem' (by omega))
 apply later
 ·intro key
  repeat' (first|refine vz ?_|(conv=>whnf); first|with_reducible first|refine Sp.mk ?_ ?_|refine br_d (fun _=>?_) fun _=>?_|refine vM (fun _=>?_) fun _=>?_)
  refine ⟨(onesW,L.getD 0 ⟨#[]⟩),?_,⟨by dsimp only; decide⟩,?_⟩
  ·repeat' ((conv=>whnf); first|with_reducible exact True.intro|exact vW|with_reducible refine And.intro ?_ ?_)
   all_goals exact Chk.mk ⟨rfl,ones7 _⟩
  dsimp only
  repeat' ((conv=>whnf); first|with_reducible refine wk_at 13 ?_|with_reducible refine wk_at1 13 ?_|with_reducible refine wk_at2 13 ?_|refine vA ?_|with_reducible first|refine v8 ?_|refine Sp.mk ?_ ?_|refine vS ?_|refine vR ?_|refine vB ?_|refine br_nt ?_|refine br_tt ?_|refine br_ff ?_|refine vP ?_|refine vQ ?_|refine vT ?_|refine vF ?_|refine br_and ?_|refine br_or ?_|refine br_d (fun _=>?_) fun _=>?_|refine vM (fun _=>?_) fun _=>?_)
  ·rename_i hw hl2
   have hw':L.getD 0 ⟨#[]⟩∈onesW:=hw
   obtain ⟨N,hN⟩:∃ N:Nat,N=1:=⟨_,rfl⟩
   have hN2:(N=1∧L.getD 0 ⟨#[]⟩∈onesW∧L.length=2)∨(N=2∧L.getD 0 ⟨#[]⟩∈twosW∧L.length=3):=.inl ⟨hN,hw',by omega⟩
   refine ⟨Wk.go [(2,.ptr 0 0),(5,slS L),(8,.int .i64 N)] [.box (plC ⟨p,bs,rs⟩)] ⟨⟨[some 0],[],rfl,rfl,?_,?_⟩⟩ ?_⟩
   ·repeat' ((conv=>whnf); first|with_reducible exact True.intro|exact vW|with_reducible refine And.intro ?_ ?_)
    all_goals exact Chk.mk (by rw [hN]; rfl)
   ·exact wq
   clear hN
   revert N
   exact key.t
  ·rename_i hw hl2
   rw [askL_what (fun e=>by omega) (fun _ g=>absurd g (ones_twos hw))] at h
   exact h
  ·rename_i hw
   refine ⟨(twosW,L.getD 0 ⟨#[]⟩),?_,⟨by dsimp only; decide⟩,?_⟩
   ·repeat' ((conv=>whnf); first|with_reducible exact True.intro|exact vW|with_reducible refine And.intro ?_ ?_)
    all_goals exact Chk.mk ⟨rfl,twos3 _⟩
   dsimp only
   repeat' ((conv=>whnf); first|with_reducible refine wk_at 13 ?_|with_reducible refine wk_at1 13 ?_|with_reducible refine wk_at2 13 ?_|refine vA ?_|with_reducible first|refine v8 ?_|refine Sp.mk ?_ ?_|refine vS ?_|refine vR ?_|refine vB ?_|refine br_nt ?_|refine br_tt ?_|refine br_ff ?_|refine vP ?_|refine vQ ?_|refine vT ?_|refine vF ?_|refine br_and ?_|refine br_or ?_|refine br_d (fun _=>?_) fun _=>?_|refine vM (fun _=>?_) fun _=>?_)
   ·rename_i hv hl2
    have hv':L.getD 0 ⟨#[]⟩∈twosW:=hv
    obtain ⟨N,hN⟩:∃ N:Nat,N=2:=⟨_,rfl⟩
    have hN2:(N=1∧L.getD 0 ⟨#[]⟩∈onesW∧L.length=2)∨(N=2∧L.getD 0 ⟨#[]⟩∈twosW∧L.length=3):=.inr ⟨hN,hv',by omega⟩
    refine ⟨Wk.go [(2,.ptr 0 0),(5,slS L),(8,.int .i64 N)] [.box (plC ⟨p,bs,rs⟩)] ⟨⟨[some 0],[],rfl,rfl,?_,?_⟩⟩ ?_⟩
    ·repeat' ((conv=>whnf); first|with_reducible exact True.intro|exact vW|with_reducible refine And.intro ?_ ?_)
     all_goals exact Chk.mk (by rw [hN]; rfl)
    ·exact wq
    clear hN
    revert N
    exact key.t
   ·rename_i hv hl2
    rw [askL_what (fun _ g=>absurd g hw) (fun e=>by omega)] at h
    exact h
   ·rename_i hv
    rw [askL_what (fun _ g=>absurd g hw) (fun _ g=>absurd g hv)] at h
    exact h
 ·intro N hN
  have hl2:L.length=N+1:=by omega
  have hN0:1≤N∧N≤2:=by omega
  dsimp only [plC]
  repeat' (first|refine vz ?_|(conv=>whnf); first|with_reducible first|refine Sp.mk ?_ ?_|refine br_d (fun _=>?_) fun _=>?_|refine vM (fun _=>?_) fun _=>?_)
  refine Lp.mk ⟨Nat,fun i=>[(2,.ptr 0 0),(5,slS L),(8,.int .i64 N),(9,.row 1 1 0 i),(47,.sl 1 N fun k=>encS (L.getD (1+k) ⟨#[]⟩)),(48,.int .i64 N),(49,.int .i64 i)],
   fun i=>[.box [.int .i64 p,slI bs,slS rs],.row 1 i fun j=>encI (digV (L.getD (j+1) ⟨#[]⟩))],fun i=>i≤N∧∀ j,j<i→isNum (L.getD (j+1) ⟨#[]⟩)=true,fun i=>N-i,⟨0,⟨Nat.zero_le _,fun j hj=>absurd hj (Nat.not_lt_zero _)⟩,⟨⟨[some 0,none],[],rfl,rfl,?_,?_⟩⟩⟩,?_⟩
  ·repeat' ((conv=>whnf); first|with_reducible exact True.intro|exact vW|with_reducible refine And.intro ?_ ?_)
   all_goals exact Chk.mk ⟨by show N=(L.length:Int).toNat-Int.toNat 1; omega,fun i _=>rfl⟩
  ·exact wq
  rintro i ⟨i1,i2⟩
  dsimp only
  repeat' (first|refine vz ?_|(conv=>whnf); first|with_reducible first|refine Sp.mk ?_ ?_|refine br_d (fun _=>?_) fun _=>?_|refine vM (fun _=>?_) fun _=>?_)
  ·rename_i hi
   have hi':i<N:=by omega
   have hj:1+i<L.length:=by omega
   refine ⟨L.getD (1+i) ⟨#[]⟩,?_,⟨by have:=hlm _ (getD_mem' (d:=⟨#[]⟩) hj); omega⟩,?_⟩
   ·exact wq
   intro v v1 v2
   repeat' (first|refine vz ?_|(conv=>whnf); first|with_reducible first|refine Sp.mk ?_ ?_|refine br_d (fun _=>?_) fun _=>?_|refine vM (fun _=>?_) fun _=>?_)
   ·rename_i hn
    have ev:=digV_read hn v2
    refine ⟨i+1,⟨by omega,fun j hj=>?_⟩,by omega,?_⟩
    ·by_cases e:j=i
     ·subst e; rw [Nat.add_comm]; exact hn
     ·exact i2 j (by omega)
    first|(refine ⟨⟨[some 0,some 3],[],rfl,rfl,?_,?_⟩⟩ <;> (repeat' ((conv=>whnf); first|with_reducible exact True.intro|exact vW|with_reducible refine And.intro ?_ ?_|exact Chk.mk ⟨rfl,rfl⟩|exact Chk.mk (fun_ext (by rw [Nat.add_comm i 1,← ev]; rfl)))) <;> fail)|(refine ⟨⟨[some 0,some 2],[],rfl,rfl,?_,?_⟩⟩ <;> (repeat' ((conv=>whnf); first|with_reducible exact True.intro|exact vW|with_reducible refine And.intro ?_ ?_|exact Chk.mk ⟨rfl,rfl⟩|exact Chk.mk (fun_ext (by rw [Nat.add_comm i 1,← ev]; rfl)))) <;> fail)
   ·rename_i hn
    rw [askL_what (fun e _=>by have e0:i=0:=(by omega); subst e0; exact hn) (fun e _=>by rcases (show i=0∨i=1 by omega) with rfl|rfl; exact .inl hn; exact .inr hn)] at h
    exact h
  ·rename_i hi
   obtain rfl:i=N:=by omega
   have n1:isNum (L.getD 1 ⟨#[]⟩)=true:=i2 0 (by omega)
   have d1:=digV_lt (L.getD 1 ⟨#[]⟩)
   have d0:=digV_isNum.2 n1
   have ha:askL ⟨p,bs,rs⟩ L=if digV (L.getD 1 ⟨#[]⟩)<rs.length then (if (i:Int)=2 then askT p bs (termR ⟨p,bs,rs⟩ (digV (L.getD 1 ⟨#[]⟩)).toNat) (L.getD 0 ⟨#[]⟩) (digV (L.getD 2 ⟨#[]⟩)) else askO p bs (termR ⟨p,bs,rs⟩ (digV (L.getD 1 ⟨#[]⟩)).toNat) (L.getD 0 ⟨#[]⟩)) else wNone:=by
    rcases hN with ⟨e,g1,g2⟩|⟨e,g1,g2⟩
    ·rw [askL_one g2 g1 n1,if_neg (show ¬ (i:Int)=2 by omega)]
    ·rw [askL_two g2 g1 n1 (i2 1 (by omega)),if_pos (show (i:Int)=2 by omega)]
   rw [ha] at h
   refine Dr.mk ⟨(.rd 0 (.rd 1 (.rd 2 (.rd 3 (.rd 4 (.rd 5 (.rd 6 .dn))))))),by decide +kernel,?_⟩
   repeat' (first|refine vz ?_|(conv=>whnf); first|with_reducible first|refine Sp.mk ?_ ?_|refine br_d (fun _=>?_) fun _=>?_|refine vM (fun _=>?_) fun _=>?_)
   ·rename_i hge
    have hge':digV (L.getD 1 ⟨#[]⟩)≥rs.length:=hge
    rw [if_neg (by omega)] at h
    exact h
   ·rename_i hlt2
    have hlt3:¬ digV (L.getD 1 ⟨#[]⟩)≥rs.length:=hlt2
    have hlt4:(digV (L.getD 1 ⟨#[]⟩)).toNat<rs.length:=by omega
    rw [if_pos (by omega)] at h
    obtain ⟨ht,hO2⟩:=termR_ok hO (digV (L.getD 1 ⟨#[]⟩)).toNat hlt4
    obtain ⟨hT,_⟩:=rdT_termI hI1 ht
    replace ht:rdT 49 ⟨p,bs⟩ (rs.getD (digV (L.getD 1 ⟨#[]⟩)).toNat ⟨#[]⟩)=some (termR ⟨p,bs,rs⟩ (digV (L.getD 1 ⟨#[]⟩)).toNat):=ht
    replace hO2:termOk ⟨p,bs⟩ (termR ⟨p,bs,rs⟩ (digV (L.getD 1 ⟨#[]⟩)).toNat):=hO2
    replace hT:termI ⟨p,bs⟩ (termR ⟨p,bs,rs⟩ (digV (L.getD 1 ⟨#[]⟩)).toNat):=hT
    generalize termR ⟨p,bs,rs⟩ (digV (L.getD 1 ⟨#[]⟩)).toNat=t at h ht hO2 hT
    have d0':0≤digV (L.getD (0+Int.toNat 0+1) ⟨#[]⟩):=d0
    have dt:digV (L.getD (0+Int.toNat 0+1) ⟨#[]⟩)<rs.length:=by omega
    refine Dr.mk ⟨(.rd 0 (.rd 1 (.rd 2 (.rd 3 (.rd 4 (.rd 5 (.rd 6 (.rd 7 (.rd 8 (.ef 9 (.rd 10 (.rd 11 (.rd 12 (.rd 13 (.rd 14 .dn))))) .no)))))))))),by decide +kernel,?_⟩
    repeat' (first|refine vz ?_|(conv=>whnf); first|with_reducible first|refine Sp.mk ?_ ?_|refine br_d (fun _=>?_) fun _=>?_|refine vM (fun _=>?_) fun _=>?_)
    refine ⟨⟨⟨p,bs⟩,rs.getD (digV (L.getD 1 ⟨#[]⟩)).toNat ⟨#[]⟩⟩,?_,⟨hI1,getD_len hI3 hlt4⟩,?_⟩
    ·exact wq
    refine And.intro (fun e=>?_) (fun u e=>?_)
    ·rw [show rdT 49 ⟨p,bs⟩ (rs.getD (digV (L.getD 1 ⟨#[]⟩)).toNat ⟨#[]⟩)=none from e] at ht
     cases ht
    ·rw [show rdT 49 ⟨p,bs⟩ (rs.getD (digV (L.getD 1 ⟨#[]⟩)).toNat ⟨#[]⟩)=some u from e] at ht
     cases ht
     repeat' (first|refine vz ?_|(conv=>whnf); first|with_reducible first|refine Sp.mk ?_ ?_|refine br_d (fun _=>?_) fun _=>?_|refine vM (fun _=>?_) fun _=>?_)
     ·rename_i h2
      rw [if_pos h2] at h
      refine Dr.mk ⟨(.rd 0 (.rd 1 (.rd 2 (.rd 3 (.rd 4 (.rd 5 (.rd 6 (.rd 7 (.rd 8 (.ef 9 (.rd 10 .dn) .no)))))))))),by decide +kernel,?_⟩
      repeat' (first|refine vz ?_|(conv=>whnf); first|with_reducible first|refine Sp.mk ?_ ?_|refine br_d (fun _=>?_) fun _=>?_|refine vM (fun _=>?_) fun _=>?_)
      refine ⟨⟨p,bs,t,L.getD 0 ⟨#[]⟩,digV (L.getD 2 ⟨#[]⟩)⟩,?_,⟨⟨hT,hO2⟩,by have:=digV_lt (L.getD 2 ⟨#[]⟩); unfold i64r; dsimp only; omega⟩,?_⟩
      ·exact wq
      repeat' (first|refine vz ?_|(conv=>whnf); first|with_reducible first|refine Sp.mk ?_ ?_|refine br_d (fun _=>?_) fun _=>?_|refine vM (fun _=>?_) fun _=>?_)
      exact h
     ·rename_i h2
      rw [if_neg h2] at h
      refine Dr.mk ⟨(.rd 0 (.rd 1 (.rd 2 (.rd 3 (.rd 4 (.rd 5 (.ef 6 (.rd 7 .dn) .no))))))),by decide +kernel,?_⟩
      repeat' (first|refine vz ?_|(conv=>whnf); first|with_reducible first|refine Sp.mk ?_ ?_|refine br_d (fun _=>?_) fun _=>?_|refine vM (fun _=>?_) fun _=>?_)
      refine ⟨⟨p,bs,t,L.getD 0 ⟨#[]⟩⟩,?_,⟨hT,hO2⟩,?_⟩
      ·exact wq
      repeat' (first|refine vz ?_|(conv=>whnf); first|with_reducible first|refine Sp.mk ?_ ?_|refine br_d (fun _=>?_) fun _=>?_|refine vM (fun _=>?_) fun _=>?_)
      exact h
end Go.Proofs.YtapeebjjljohdaaGreatDoor.Vc
end
section
/- Part QK: questions, by the reference. -/
namespace Go.Proofs.YtapeebjjljohdaaGreatDoor.Vc
open Go.Proofs
set_option maxRecDepth 100000
set_option maxHeartbeats 4000000
theorem walk_conn {bs:List Int}:∀ (t:List Mark) (k j:Nat),walkP bs t k=some j→∀ m∈t,¬ m.kind=0→m.at_=0∧m.need=0
 |[],_,_,_,m,hm,_=>by cases hm
 |x :: t,k,j,h,m,hm,hk=>by
  simp only [walkP] at h
  cases e:stepP bs x k with
  |none=>rw [e] at h; cases h
  |some i =>
   rw [e] at h
   rcases List.mem_cons.1 hm with rfl|hm
   ·unfold stepP at e
    split at e
    ·rename_i g; exact absurd g.1 hk
    ·split at e
     ·rename_i g; exact ⟨g.2.1,g.2.2.1⟩
     ·cases e
   ·exact walk_conn t i j h m hm hk
open Classical in
def C328:List AV→(AV→Prop)→Prop:=con (X:=House × List Mark) (fun x=>[enH x.1,slM x.2]) (fun x=>termI x.1 x.2) fun x K=>K (slM (if termOk x.1 x.2 then dualT x.1.bs x.2 else []))
theorem F328:FF 108 C328:=by
 refine fitXE [(127,C33),(148,C48)] (by simp only [List.mem_cons,List.not_mem_nil,or_false]; rintro _ (rfl|rfl) <;> first|exact F33|exact F48) [] (by simp) Tryz.f108 ⟨rfl,by decide +kernel,by decide +kernel⟩ (by intro x K K2 hk h; (try dsimp only at h ⊢); intros; apply hk; first|exact h|(apply h <;> assumption)) ?_
 rintro ⟨⟨p,bs⟩,t⟩ K hI h
 refine ⟨Nat.le_of_ble_eq_true rfl,?_⟩
 dsimp only [enH] at h hI ⊢
 have hl:=hI.2.2.2
 repeat' (first|refine vz ?_|(conv=>whnf); first|with_reducible first|refine Sp.mk ?_ ?_|refine br_d (fun _=>?_) fun _=>?_|refine vM (fun _=>?_) fun _=>?_)
 refine Lp.mk ⟨Nat,fun i=>[(1,slM t),(2,.ptr 0 0),(5,.row 1 3 0 i),(6,.int .i64 i)],
  fun i=>[.box [.int .i64 p,slI bs],.row 3 i fun j=>encM ((dualT bs (t.take i)).getD j default)],fun i=>i≤t.length∧(0<i→termOk ⟨p,bs⟩ t),fun i=>t.length-i,⟨0,⟨Nat.zero_le _,fun h=>absurd h (Nat.lt_irrefl _)⟩,⟨⟨[some 0,none],[],rfl,rfl,?_,?_⟩⟩⟩,?_⟩
 ·exact wq
 ·exact wq
 rintro i ⟨i1,i2⟩
 dsimp only
 by_cases hi:i<t.length
 ·by_cases hO:termOk ⟨p,bs⟩ t
  ·rw [if_pos hO] at h
   have hg:∀ m∈t,goodM bs m:=walk_good t 0 1 hO.2.2
   have hc:∀ m∈t,¬ m.kind=0→m.at_=0∧m.need=0:=walk_conn t 0 1 hO.2.2
   have ht9:t.length≤9:=hO.2.1
   have pp:people p:=hO.1.1
   have pl:=pw_le pp
   have e0:((i:Nat):Int).toNat=i:=rfl
   repeat' (first|refine vz ?_|(conv=>whnf); first|with_reducible first|refine Sp.mk ?_ ?_|refine br_d (fun _=>?_) fun _=>?_|refine vM (fun _=>?_) fun _=>?_)
   refine ⟨(⟨p,bs⟩,t),?_,⟨hI⟩,?_⟩
   ·exact wq
   dsimp only
   rw [decide_eq_true hO]
   repeat' (first|refine vz ?_|(conv=>whnf); first|with_reducible first|refine Sp.mk ?_ ?_|refine br_d (fun _=>?_) fun _=>?_|refine vM (fun _=>?_) fun _=>?_)
   ·rename_i hk
    have hk':(t.getD i default).kind=1:=hk
    have hk0:¬ (t.getD i default).kind=0:=by omega
    obtain ⟨c1,c2⟩:=hc _ (getD_mem' (l:=t) (i:=i) (d:=default) hi) hk0
    refine ⟨i+1,⟨by omega,fun _=>hO⟩,by omega,?_⟩
    first|(refine ⟨⟨[some 0,some 3],[],rfl,rfl,?_,?_⟩⟩ <;> (repeat' ((conv=>whnf); first|with_reducible exact True.intro|exact vW|with_reducible refine And.intro ?_ ?_|exact Chk.mk (dual_ext hi (by unfold dualM; rw [if_neg hk0,if_pos hk',c1,c2]; rfl)))) <;> fail)|(refine ⟨⟨[some 0,some 2],[],rfl,rfl,?_,?_⟩⟩ <;> (repeat' ((conv=>whnf); first|with_reducible exact True.intro|exact vW|with_reducible refine And.intro ?_ ?_|exact Chk.mk (dual_ext hi (by unfold dualM; rw [if_neg hk0,if_pos hk',c1,c2]; rfl)))) <;> fail)
   ·rename_i hk1 hk
    have hk':(t.getD i default).kind=2:=hk
    have hk0:¬ (t.getD i default).kind=0:=by omega
    obtain ⟨c1,c2⟩:=hc _ (getD_mem' (l:=t) (i:=i) (d:=default) hi) hk0
    refine ⟨i+1,⟨by omega,fun _=>hO⟩,by omega,?_⟩
    first|(refine ⟨⟨[some 0,some 3],[],rfl,rfl,?_,?_⟩⟩ <;> (repeat' ((conv=>whnf); first|with_reducible exact True.intro|exact vW|with_reducible refine And.intro ?_ ?_|exact Chk.mk (dual_ext hi (by unfold dualM; rw [if_neg hk0,if_neg (by omega),c1,c2]; rfl)))) <;> fail)|(refine ⟨⟨[some 0,some 2],[],rfl,rfl,?_,?_⟩⟩ <;> (repeat' ((conv=>whnf); first|with_reducible exact True.intro|exact vW|with_reducible refine And.intro ?_ ?_|exact Chk.mk (dual_ext hi (by unfold dualM; rw [if_neg hk0,if_neg (by omega),c1,c2]; rfl)))) <;> fail)
   ·rename_i hk1 hk2
    have hk1':¬ (t.getD i default).kind=1:=hk1
    have hk2':¬ (t.getD i default).kind=2:=hk2
    have hm:=hg _ (getD_mem' (l:=t) (i:=i) (d:=default) hi)
    rcases hm with ⟨hk',g1,g2,g3,g4⟩|g|g <;> try omega
    have hb:=body_ok (p:=p) (bs:=bs) hO.1.2.2 g1 g2
    have hh:=heads_le (bs.getD (t.getD i default).at_.toNat 0).toNat
    have g1':0≤(t.getD ((i:Nat):Int).toNat default).at_:=g1
    have g2':(t.getD ((i:Nat):Int).toNat default).at_<bs.length:=g2
    have g3':1≤(t.getD ((i:Nat):Int).toNat default).need:=g3
    have g4':(t.getD ((i:Nat):Int).toNat default).need≤((heads (bs.getD (t.getD ((i:Nat):Int).toNat default).at_.toNat 0).toNat:Nat):Int):=g4
    have hh':heads (bs.getD (t.getD ((i:Nat):Int).toNat default).at_.toNat 0).toNat≤64:=hh
    refine Dr.mk ⟨(.rd 0 (.rd 1 (.rd 2 (.rd 3 (.rd 4 (.rd 5 (.rd 6 (.rd 7 (.rd 8 (.rd 9 (.rd 10 (.rd 11 (.rd 12 (.rd 13 (.rd 14 (.rd 17 (.rd 18 (.rd 19 (.rd 20 (.rd 21 (.ef 15 (.rd 16 (.rd 22 (.rd 23 (.ef 24 (.ef 25 (.rd 26 .dn) .no) .no)))) .no))))))))))))))))))))),by decide +kernel,?_⟩
    repeat' (first|refine vz ?_|(conv=>whnf); first|with_reducible first|refine Sp.mk ?_ ?_|refine br_d (fun _=>?_) fun _=>?_|refine vM (fun _=>?_) fun _=>?_)
    refine ⟨bs.getD (t.getD i default).at_.toNat 0,?_,⟨by have:=hb.2.1; omega,by have:=hb.2.2; omega⟩,?_⟩
    ·exact wq
    repeat' (first|refine vz ?_|(conv=>whnf); first|with_reducible first|refine Sp.mk ?_ ?_|refine br_d (fun _=>?_) fun _=>?_|refine vM (fun _=>?_) fun _=>?_)
    refine ⟨i+1,⟨by omega,fun _=>hO⟩,by omega,?_⟩
    first|(refine ⟨⟨[some 0,some 3],[],rfl,rfl,?_,?_⟩⟩ <;> (repeat' ((conv=>whnf); first|with_reducible exact True.intro|exact vW|with_reducible refine And.intro ?_ ?_|exact Chk.mk (dual_ext hi (by unfold dualM; rw [if_pos hk']; rfl)))) <;> fail)|(refine ⟨⟨[some 0,some 2],[],rfl,rfl,?_,?_⟩⟩ <;> (repeat' ((conv=>whnf); first|with_reducible exact True.intro|exact vW|with_reducible refine And.intro ?_ ?_|exact Chk.mk (dual_ext hi (by unfold dualM; rw [if_pos hk']; rfl)))) <;> fail)
  ·rw [if_neg hO] at h
   have hi0:i=0:=by
    rcases Nat.eq_zero_or_pos i with e|e
    ·exact e
    ·exact absurd (i2 e) hO
   subst hi0
   repeat' (first|refine vz ?_|(conv=>whnf); first|with_reducible first|refine Sp.mk ?_ ?_|refine br_d (fun _=>?_) fun _=>?_|refine vM (fun _=>?_) fun _=>?_)
   refine ⟨(⟨p,bs⟩,t),?_,⟨hI⟩,?_⟩
   ·exact wq
   dsimp only
   rw [decide_eq_false hO]
   repeat' (first|refine vz ?_|(conv=>whnf); first|with_reducible first|refine Sp.mk ?_ ?_|refine br_d (fun _=>?_) fun _=>?_|refine vM (fun _=>?_) fun _=>?_)
   refine ⟨_,?_,h⟩
   repeat' ((conv=>whnf); first|with_reducible exact True.intro|exact vW|with_reducible refine And.intro ?_ ?_)
   all_goals exact Chk.mk ⟨rfl,fun i hi=>absurd hi (Nat.not_lt_zero _)⟩
 ·have ei:t.take i=t:=List.take_of_length_le (by omega)
  have hr:(if termOk ⟨p,bs⟩ t then dualT bs t else [])=dualT bs (t.take i):=by
   rw [ei]
   by_cases hO:termOk ⟨p,bs⟩ t
   ·rw [if_pos hO]
   ·have:i=0:=by
     rcases Nat.eq_zero_or_pos i with e|e
     ·exact e
     ·exact absurd (i2 e) hO
    have ht:t=[]:=List.length_eq_zero_iff.1 (by omega)
    rw [if_neg hO,ht]
    rfl
  rw [hr] at h
  repeat' (first|refine vz ?_|(conv=>whnf); first|with_reducible first|refine Sp.mk ?_ ?_|refine br_d (fun _=>?_) fun _=>?_|refine vM (fun _=>?_) fun _=>?_)
  refine ⟨_,?_,h⟩
  repeat' ((conv=>whnf); first|with_reducible exact True.intro|exact vW|with_reducible refine And.intro ?_ ?_)
  all_goals exact Chk.mk ⟨by rw [dualT,List.length_map,List.length_take]; omega,fun j hj=>by dsimp only; rw [Nat.zero_add]⟩
def C323:=C319
theorem F323:FF 109 C323:=by
 refine fitE [] (by simp) Tryz.f109 ⟨rfl,by decide +kernel,by decide +kernel⟩ (fun _ _ _ hk h=>hk _ h) ?_
 rintro b K _ h
 refine ⟨Nat.le_of_ble_eq_true rfl,?_⟩
 unfold yn at h
 cases b
 ·rw [if_neg Bool.false_ne_true] at h
  repeat' (first|refine vz ?_|(conv=>whnf); first|with_reducible first|refine Sp.mk ?_ ?_|refine br_d (fun _=>?_) fun _=>?_|refine vM (fun _=>?_) fun _=>?_)
  exact h
 ·rw [if_pos rfl] at h
  repeat' (first|refine vz ?_|(conv=>whnf); first|with_reducible first|refine Sp.mk ?_ ?_|refine br_d (fun _=>?_) fun _=>?_|refine vM (fun _=>?_) fun _=>?_)
  exact h
end Go.Proofs.YtapeebjjljohdaaGreatDoor.Vc
end
