/- Part QM: questions about rules and numbers, by the reference. -/
import Derived.Test.YtgdbhjmpkkbnnaaGreatDoorVc8
section
namespace Go.Proofs.YtgdbhjmpkkbnnaaGreatDoor.Vc
open Go.Proofs
set_option maxRecDepth 100000
set_option maxHeartbeats 4000000
structure A2 where
 x:Place
 w:ByteArray
 n:Int
 m:Int
theorem askT_consent {p bs t n}:askT p bs t wConsent n=yn (decide (crowd p n) && says bs n t):=by unfold askT; rw [if_pos rfl]
theorem askT_swings {p bs t n}:askT p bs t wSwings n=numN (swingsOf ⟨⟨p,bs⟩,t,n⟩):=by unfold askT; rw [if_neg (by decide),if_pos rfl]
theorem askT_pivots {p bs t n}:askT p bs t wPivots n=numN (pivotsOf ⟨⟨p,bs⟩,t,n⟩):=by unfold askT; rw [if_neg (by decide),if_neg (by decide)]
def C321:List AV→(AV→Prop)→Prop:=con (X:=A2) (fun x=>[enPl x.x,.str x.w,.int .i64 x.n,.int .i64 x.m]) (fun x=>((placeI x.x∧placeOk x.x)∧0≤x.n∧x.n<1000000)∧0≤x.m∧x.m<1000000) fun x K=>K (.str (askTwo x.x x.w x.n x.m))
theorem F321:FF 45 C321:=by
 refine fitE [(75,C322),(85,C209),(82,C323),(86,C21),(87,C25),(72,C106)] (by simp only [List.mem_cons,List.not_mem_nil,or_false]; rintro _ (rfl|rfl|rfl|rfl|rfl|rfl) <;> first|exact F322|exact F209|exact F323|exact F21|exact F25|exact F106) Tryz.f45 ⟨rfl,by decide +kernel,by decide +kernel⟩ (fun _ _ _ hk h=>hk _ h) ?_
 rintro ⟨⟨p,bs,rs⟩,w,n,m⟩ K ⟨⟨⟨hI,hO⟩,h0,h1⟩,m0,m1⟩ h
 refine ⟨Nat.le_of_ble_eq_true rfl,?_⟩
 have hI1:houI ⟨p,bs⟩:=hI.1
 dsimp only [enPl,plC] at h h0 h1 m0 m1 ⊢
 have hmi:i64r m:=by unfold i64r; omega
 repeat' (first|refine vz ?_|(conv=>whnf); first|with_reducible first|refine Sp.mk ?_ ?_|refine br_d (fun _=>?_) fun _=>?_|refine vM (fun _=>?_) fun _=>?_)
 refine ⟨⟨⟨p,bs,rs⟩,n⟩,?_,⟨⟨hI,hO⟩,h0,h1⟩,?_⟩
 ·exact wq
 dsimp only
 unfold askTwo at h
 by_cases hn:n<rs.length
 ·obtain ⟨ht,hT⟩:=termR_ok hO n.toNat (by dsimp only; omega)
  obtain ⟨hTI,_⟩:=rdT_termI hI1 ht
  replace hT:termOk ⟨p,bs⟩ (termR ⟨p,bs,rs⟩ n.toNat):=hT
  replace hTI:termI ⟨p,bs⟩ (termR ⟨p,bs,rs⟩ n.toNat):=hTI
  dsimp only at h
  rw [if_pos hn] at h ⊢
  rw [decide_eq_true hn]
  generalize termR ⟨p,bs,rs⟩ n.toNat=t at h hT hTI ⊢
  repeat' (first|refine vz ?_|(conv=>whnf); first|with_reducible first|refine Sp.mk ?_ ?_|refine br_d (fun _=>?_) fun _=>?_|refine vM (fun _=>?_) fun _=>?_)
  ·rename_i q
   rw [if_pos (show w∈twosW by rw [q]; decide),show askT p bs t w m=yn (decide (crowd p m) && says bs m t) by rw [q]; exact askT_consent] at h
   refine ⟨⟨⟨p,bs⟩,t,m⟩,?_,⟨hTI,hmi⟩,?_⟩
   ·exact wq
   unfold consB
   dsimp only
   rw [decide_eq_true hT,Bool.true_and]
   repeat' (first|refine vz ?_|(conv=>whnf); first|with_reducible first|refine Sp.mk ?_ ?_|refine br_d (fun _=>?_) fun _=>?_|refine vM (fun _=>?_) fun _=>?_)
   refine ⟨decide (crowd p m) && says bs m t,?_,⟨trivial⟩,?_⟩
   ·exact wq
   repeat' (first|refine vz ?_|(conv=>whnf); first|with_reducible first|refine Sp.mk ?_ ?_|refine br_d (fun _=>?_) fun _=>?_|refine vM (fun _=>?_) fun _=>?_)
   exact h
  ·rename_i q0 q
   rw [if_pos (show w∈twosW by rw [q]; decide),show askT p bs t w m=numN (swingsOf ⟨⟨p,bs⟩,t,m⟩) by rw [q]; exact askT_swings] at h
   refine ⟨⟨⟨p,bs⟩,t,m⟩,?_,⟨hTI,hmi⟩,?_⟩
   ·exact wq
   dsimp only
   have hm:=@swings_sz p bs t m
   have q9:¬ w=wPivots:=by rw [q]; decide
   generalize swingsOf ⟨⟨p,bs⟩,t,m⟩=k at hm h ⊢
   repeat' (first|refine vz ?_|(conv=>whnf); first|with_reducible first|refine Sp.mk ?_ ?_|refine br_d (fun _=>?_) fun _=>?_|refine vM (fun _=>?_) fun _=>?_)
   ·rename_i e
    rw [numN,if_pos (by omega)] at h
    exact h
   ·rename_i e
    have hm2:=hm.resolve_left (by omega)
    rw [numN,if_neg (by omega)] at h
    refine ⟨k,?_,⟨hm2⟩,?_⟩
    ·exact wq
    repeat' (first|refine vz ?_|(conv=>whnf); first|with_reducible first|refine Sp.mk ?_ ?_|refine br_d (fun _=>?_) fun _=>?_|refine vM (fun _=>?_) fun _=>?_)
    exact h
  ·rename_i q0 q1 q
   rw [if_pos (show w∈twosW by rw [q]; decide),show askT p bs t w m=numN (pivotsOf ⟨⟨p,bs⟩,t,m⟩) by rw [q]; exact askT_pivots] at h
   refine ⟨⟨⟨p,bs⟩,t,m⟩,?_,⟨hTI,hmi⟩,?_⟩
   ·exact wq
   dsimp only
   repeat' (first|refine vz ?_|(conv=>whnf); first|with_reducible first|refine Sp.mk ?_ ?_|refine br_d (fun _=>?_) fun _=>?_|refine vM (fun _=>?_) fun _=>?_)
   refine ⟨⟨⟨p,bs⟩,t,m⟩,?_,⟨hTI,hmi⟩,?_⟩
   ·exact wq
   dsimp only
   have hm:=@pivots_sz p bs t m
   generalize pivotsOf ⟨⟨p,bs⟩,t,m⟩=k at hm h ⊢
   repeat' (first|refine vz ?_|(conv=>whnf); first|with_reducible first|refine Sp.mk ?_ ?_|refine br_d (fun _=>?_) fun _=>?_|refine vM (fun _=>?_) fun _=>?_)
   ·rename_i e
    rw [numN,if_pos (by omega)] at h
    exact h
   ·rename_i e
    have hm2:=hm.resolve_left (by omega)
    rw [numN,if_neg (by omega)] at h
    refine ⟨k,?_,⟨hm2⟩,?_⟩
    ·exact wq
    repeat' (first|refine vz ?_|(conv=>whnf); first|with_reducible first|refine Sp.mk ?_ ?_|refine br_d (fun _=>?_) fun _=>?_|refine vM (fun _=>?_) fun _=>?_)
    exact h
  ·rename_i q1 q2 q3
   rw [if_neg (by unfold twosW; simp only [List.mem_cons,List.not_mem_nil,or_false,not_or]; exact ⟨q1,q2,q3⟩)] at h
   exact h
 ·have hw:(if w∈twosW then wNone else wWhat)=(if w∈twosW then (if n<(Place.rules ⟨p,bs,rs⟩).length then askT p bs (termR ⟨p,bs,rs⟩ n.toNat) w m else wNone) else wWhat):=by rw [if_neg hn]
  replace h:K (.str (if w∈twosW then wNone else wWhat)):=hw ▸ h
  clear hw
  rw [if_neg hn,decide_eq_false hn]
  repeat' (first|refine vz ?_|(conv=>whnf); first|with_reducible first|refine Sp.mk ?_ ?_|refine br_d (fun _=>?_) fun _=>?_|refine vM (fun _=>?_) fun _=>?_)
  ·rename_i q
   rw [if_pos (show w∈twosW by rw [q]; decide)] at h
   exact h
  ·rename_i q0 q
   rw [if_pos (show w∈twosW by rw [q]; decide)] at h
   exact h
  ·rename_i q0 q1 q
   rw [if_pos (show w∈twosW by rw [q]; decide)] at h
   exact h
  ·rename_i q1 q2 q3
   rw [if_neg (by unfold twosW; simp only [List.mem_cons,List.not_mem_nil,or_false,not_or]; exact ⟨q1,q2,q3⟩)] at h
   exact h
end Go.Proofs.YtgdbhjmpkkbnnaaGreatDoor.Vc
end
section
/- Part QN: a line to a desk, by both sides. -/
namespace Go.Proofs.YtgdbhjmpkkbnnaaGreatDoor.Vc
open Go.Proofs
set_option maxRecDepth 100000
set_option maxHeartbeats 4000000
structure Ds where
 d:Desk
 s:ByteArray
theorem okDd_I {s:ByteArray} {a:Dd} (h:isDd s a) (hs:s.size≤1048576):dedI a:=by
 have ho:=h.1
 have h1:=ho.a
 have h2:=ho.b
 have h3:=words_le ho
 rw [h.2] at h3
 refine ⟨?_,?_,?_,by omega⟩
 ·unfold i64r
  rcases ho.k with q|q|q|q|q <;> omega
 ·unfold i64r; omega
 ·unfold i64r; omega
def C311:List AV→(AV→Prop)→Prop:=con (X:=Ds) (fun x=>[enDe x.d,.str x.s]) (fun x=>deskI x.d∧x.s.size≤1048576) fun x K=>(deskOk x.d→K (.tup [enDe (lineD x.d x.s).1,.str (lineD x.d x.s).2]))∧(¬ deskOk x.d→K (.tup [enDe default,.str ⟨#[]⟩]))
def C313:=C311
theorem ptext_ok {x:Place} (h:placeOk x):ptext x=plT x:=if_pos h
theorem F313:FF 9 C313:=by
 refine fitXE [(38,C139),(40,C244),(23,C183),(41,C142),(42,C215),(43,C216s),(44,C320),(45,C321)] (by simp only [List.mem_cons,List.not_mem_nil,or_false]; rintro _ (rfl|rfl|rfl|rfl|rfl|rfl|rfl|rfl) <;> first|exact F139|exact F244|exact F183|exact F142|exact F215|exact F216s|exact F320|exact F321) [(39,C198)] (by simp only [List.mem_cons,List.not_mem_nil,or_false]; rintro _ rfl; exact F198) Tryz.f9 ⟨rfl,by decide +kernel,by decide +kernel⟩ (fun _ _ _ hk h=>⟨fun q=>hk _ (h.1 q),fun q=>hk _ (h.2 q)⟩) ?_
 rintro ⟨⟨⟨p,bs,rs⟩,l⟩,s⟩ K ⟨hI,hs⟩ ⟨h1,h2⟩
 refine ⟨Nat.le_of_ble_eq_true rfl,?_⟩
 dsimp only at hI hs h1 h2
 dsimp only [enDe,deC]
 repeat' (first|refine vz ?_|(conv=>whnf); first|with_reducible first|refine Sp.mk ?_ ?_|refine br_d (fun _=>?_) fun _=>?_|refine vM (fun _=>?_) fun _=>?_)
 refine ⟨⟨⟨p,bs,rs⟩,l⟩,?_,⟨hI⟩,?_⟩
 ·exact wq
 by_cases hO:deskOk ⟨⟨p,bs,rs⟩,l⟩
 ·have h:=h1 hO
  clear h1 h2
  have hsh:=deskOk_short hO
  dsimp only
  rw [decide_eq_true hO]
  repeat' (first|refine vz ?_|(conv=>whnf); first|with_reducible first|refine Sp.mk ?_ ?_|refine br_d (fun _=>?_) fun _=>?_|refine vM (fun _=>?_) fun _=>?_)
  refine ⟨_,_,[],[],rfl,?_,?_,⟨⟨p,bs,rs⟩,l⟩,rfl,rfl,⟨hsh⟩,?_⟩
  ·exact wq
  ·exact wq
  dsimp only [deG,psO]
  repeat' (first|refine vz ?_|(conv=>whnf); first|with_reducible first|refine Sp.mk ?_ ?_|refine br_d (fun _=>?_) fun _=>?_|refine vM (fun _=>?_) fun _=>?_)
  refine ⟨s,?_,⟨hs⟩,?_⟩
  ·exact wq
  refine ⟨fun a ha=>?_,fun hno=>?_⟩
  ·rw [lineD_deed ha] at h
   have hda:=okDd_I ha hs
   obtain ⟨k,x,y,w⟩:=a
   dsimp only [ded,encD] at h ⊢
   repeat' (first|refine vz ?_|(conv=>whnf); first|with_reducible first|refine Sp.mk ?_ ?_|refine br_d (fun _=>?_) fun _=>?_|refine vM (fun _=>?_) fun _=>?_)
   refine ⟨⟨⟨⟨p,bs,rs⟩,l⟩,⟨k,x,y,w⟩⟩,?_,⟨hI,hda⟩,?_⟩
   ·exact wq
   unfold afterD canD
   dsimp only
   rw [if_pos hO,decide_eq_true hO,Bool.true_and]
   generalize (doD ⟨⟨p,bs,rs⟩,l⟩ ⟨k,x,y,w⟩).isSome=ok at h ⊢
   generalize (doD ⟨⟨p,bs,rs⟩,l⟩ ⟨k,x,y,w⟩).getD ⟨⟨p,bs,rs⟩,l⟩=e at h ⊢
   obtain ⟨⟨ep,eb,er⟩,el⟩:=e
   dsimp only [enDe,deC] at h ⊢
   cases ok
   ·rw [if_neg Bool.false_ne_true] at h
    repeat' (first|refine vz ?_|(conv=>whnf); first|with_reducible first|refine Sp.mk ?_ ?_|refine br_d (fun _=>?_) fun _=>?_|refine vM (fun _=>?_) fun _=>?_)
    refine ⟨_,?_,h⟩
    repeat' ((conv=>whnf); first|with_reducible exact True.intro|exact vW|with_reducible refine And.intro ?_ ?_)
   ·rw [if_pos rfl] at h
    repeat' (first|refine vz ?_|(conv=>whnf); first|with_reducible first|refine Sp.mk ?_ ?_|refine br_d (fun _=>?_) fun _=>?_|refine vM (fun _=>?_) fun _=>?_)
    refine ⟨_,?_,h⟩
    repeat' ((conv=>whnf); first|with_reducible exact True.intro|exact vW|with_reducible refine And.intro ?_ ?_)
  ·rw [lineD_ask hno] at h
   unfold askD at h
   dsimp only [enDe,deC,ded,encD] at h ⊢
   repeat' (first|refine vz ?_|(conv=>whnf); first|with_reducible first|refine Sp.mk ?_ ?_|refine br_d (fun _=>?_) fun _=>?_|refine vM (fun _=>?_) fun _=>?_)
   ·rename_i q
    rw [if_pos q] at h
    refine Dr.mk ⟨(.rd 0 (.rd 1 (.rd 2 (.ef 3 (.ef 4 (.rd 5 .dn) .no) .no)))),by decide +kernel,?_⟩
    repeat' (first|refine vz ?_|(conv=>whnf); first|with_reducible first|refine Sp.mk ?_ ?_|refine br_d (fun _=>?_) fun _=>?_|refine vM (fun _=>?_) fun _=>?_)
    refine ⟨⟨p,bs,rs⟩,?_,⟨hI.1⟩,?_⟩
    ·exact wq
    dsimp only
    rw [ptext_ok (x:=⟨p,bs,rs⟩) hO.1]
    repeat' (first|refine vz ?_|(conv=>whnf); first|with_reducible first|refine Sp.mk ?_ ?_|refine br_d (fun _=>?_) fun _=>?_|refine vM (fun _=>?_) fun _=>?_)
    refine ⟨_,?_,h⟩
    repeat' ((conv=>whnf); first|with_reducible exact True.intro|exact vW|with_reducible refine And.intro ?_ ?_)
    all_goals exact Chk.mk ⟨rfl,fun i _=>by dsimp only; (try rw [Nat.zero_add]); try rfl⟩
   ·rename_i q
    rw [if_neg q] at h
    refine ⟨(s,32),?_,⟨by dsimp only; omega⟩,?_⟩
    ·exact wq
    have hlm:∀ w∈cutB s 32,w.size≤s.size:=fun w hw=>cutB_mem (c:=32) hw
    have hcl:=cutB_len s 32
    dsimp only
    generalize cutB s 32=L at h hlm hcl ⊢
    unfold askL at h
    repeat' (first|refine vz ?_|(conv=>whnf); first|with_reducible first|refine Sp.mk ?_ ?_|refine br_d (fun _=>?_) fun _=>?_|refine vM (fun _=>?_) fun _=>?_)
    ·rename_i hl
     have hl2:L.length=2:=by omega
     have e1:=hlm _ (getD_mem' (l:=L) (i:=1) (d:=⟨#[]⟩) (by omega))
     refine ⟨L.getD 1 ⟨#[]⟩,?_,⟨by omega⟩,?_⟩
     ·exact wq
     repeat' (first|refine vz ?_|(conv=>whnf); first|with_reducible first|refine Sp.mk ?_ ?_|refine br_d (fun _=>?_) fun _=>?_|refine vM (fun _=>?_) fun _=>?_)
     ·rename_i hd
      rw [if_pos ⟨hl2,hd⟩] at h
      refine Dr.mk ⟨(.rd 0 (.rd 1 (.rd 2 (.rd 3 (.rd 4 (.rd 5 (.rd 6 (.rd 7 (.rd 8 (.ef 9 (.ef 10 (.ef 11 (.rd 12 .dn) .no) .no) .no)))))))))),by decide +kernel,?_⟩
      repeat' (first|refine vz ?_|(conv=>whnf); first|with_reducible first|refine Sp.mk ?_ ?_|refine br_d (fun _=>?_) fun _=>?_|refine vM (fun _=>?_) fun _=>?_)
      refine ⟨L.getD 1 ⟨#[]⟩,?_,⟨by omega⟩,?_⟩
      ·exact wq
      repeat' (first|refine vz ?_|(conv=>whnf); first|with_reducible first|refine Sp.mk ?_ ?_|refine br_d (fun _=>?_) fun _=>?_|refine vM (fun _=>?_) fun _=>?_)
      refine ⟨⟨⟨p,bs,rs⟩,L.getD 0 ⟨#[]⟩,digV (L.getD 1 ⟨#[]⟩)⟩,?_,⟨⟨hI.1,hO.1⟩,hd,(digV_lt _).2⟩,?_⟩
      ·exact wq
      dsimp only
      repeat' (first|refine vz ?_|(conv=>whnf); first|with_reducible first|refine Sp.mk ?_ ?_|refine br_d (fun _=>?_) fun _=>?_|refine vM (fun _=>?_) fun _=>?_)
      refine ⟨_,?_,h⟩
      repeat' ((conv=>whnf); first|with_reducible exact True.intro|exact vW|with_reducible refine And.intro ?_ ?_)
      all_goals exact Chk.mk ⟨rfl,fun i _=>by dsimp only; (try rw [Nat.zero_add]); try rfl⟩
     ·rename_i hd
      rw [if_neg (fun q=>hd q.2),if_neg (fun q=>by omega)] at h
      repeat' (first|refine vz ?_|(conv=>whnf); first|with_reducible first|refine Sp.mk ?_ ?_|refine br_d (fun _=>?_) fun _=>?_|refine vM (fun _=>?_) fun _=>?_)
      refine ⟨_,?_,h⟩
      repeat' ((conv=>whnf); first|with_reducible exact True.intro|exact vW|with_reducible refine And.intro ?_ ?_)
      all_goals exact Chk.mk ⟨rfl,fun i _=>by dsimp only; (try rw [Nat.zero_add]); try rfl⟩
    ·rename_i hl0 hl
     have hl2:L.length=3:=by omega
     rw [if_neg (fun q=>by omega)] at h
     have e1:=hlm _ (getD_mem' (l:=L) (i:=1) (d:=⟨#[]⟩) (by omega))
     have e2:=hlm _ (getD_mem' (l:=L) (i:=2) (d:=⟨#[]⟩) (by omega))
     refine ⟨L.getD 1 ⟨#[]⟩,?_,⟨by omega⟩,?_⟩
     ·exact wq
     repeat' (first|refine vz ?_|(conv=>whnf); first|with_reducible first|refine Sp.mk ?_ ?_|refine br_d (fun _=>?_) fun _=>?_|refine vM (fun _=>?_) fun _=>?_)
     ·rename_i hd
      refine ⟨L.getD 2 ⟨#[]⟩,?_,⟨by omega⟩,?_⟩
      ·exact wq
      repeat' (first|refine vz ?_|(conv=>whnf); first|with_reducible first|refine Sp.mk ?_ ?_|refine br_d (fun _=>?_) fun _=>?_|refine vM (fun _=>?_) fun _=>?_)
      ·rename_i hd2
       rw [if_pos ⟨hl2,hd,hd2⟩] at h
       refine Dr.mk ⟨(.rd 0 (.rd 1 (.rd 2 (.rd 3 (.rd 4 (.rd 5 (.rd 6 (.rd 7 (.rd 8 (.rd 10 (.rd 11 (.rd 12 (.ef 9 (.ef 13 (.ef 14 (.ef 15 (.rd 16 .dn) .no) .no) .no) .no))))))))))))),by decide +kernel,?_⟩
       repeat' (first|refine vz ?_|(conv=>whnf); first|with_reducible first|refine Sp.mk ?_ ?_|refine br_d (fun _=>?_) fun _=>?_|refine vM (fun _=>?_) fun _=>?_)
       refine ⟨L.getD 1 ⟨#[]⟩,?_,⟨by omega⟩,?_⟩
       ·exact wq
       repeat' (first|refine vz ?_|(conv=>whnf); first|with_reducible first|refine Sp.mk ?_ ?_|refine br_d (fun _=>?_) fun _=>?_|refine vM (fun _=>?_) fun _=>?_)
       refine ⟨L.getD 2 ⟨#[]⟩,?_,⟨by omega⟩,?_⟩
       ·exact wq
       repeat' (first|refine vz ?_|(conv=>whnf); first|with_reducible first|refine Sp.mk ?_ ?_|refine br_d (fun _=>?_) fun _=>?_|refine vM (fun _=>?_) fun _=>?_)
       refine ⟨⟨⟨p,bs,rs⟩,L.getD 0 ⟨#[]⟩,digV (L.getD 1 ⟨#[]⟩),digV (L.getD 2 ⟨#[]⟩)⟩,?_,⟨⟨⟨hI.1,hO.1⟩,hd,(digV_lt _).2⟩,hd2,(digV_lt _).2⟩,?_⟩
       ·exact wq
       dsimp only
       repeat' (first|refine vz ?_|(conv=>whnf); first|with_reducible first|refine Sp.mk ?_ ?_|refine br_d (fun _=>?_) fun _=>?_|refine vM (fun _=>?_) fun _=>?_)
       refine ⟨_,?_,h⟩
       repeat' ((conv=>whnf); first|with_reducible exact True.intro|exact vW|with_reducible refine And.intro ?_ ?_)
       all_goals exact Chk.mk ⟨rfl,fun i _=>by dsimp only; (try rw [Nat.zero_add]); try rfl⟩
      ·rename_i hd2
       rw [if_neg (fun q=>hd2 q.2.2)] at h
       repeat' (first|refine vz ?_|(conv=>whnf); first|with_reducible first|refine Sp.mk ?_ ?_|refine br_d (fun _=>?_) fun _=>?_|refine vM (fun _=>?_) fun _=>?_)
       refine ⟨_,?_,h⟩
       repeat' ((conv=>whnf); first|with_reducible exact True.intro|exact vW|with_reducible refine And.intro ?_ ?_)
       all_goals exact Chk.mk ⟨rfl,fun i _=>by dsimp only; (try rw [Nat.zero_add]); try rfl⟩
     ·rename_i hd
      rw [if_neg (fun q=>hd q.2.1)] at h
      repeat' (first|refine vz ?_|(conv=>whnf); first|with_reducible first|refine Sp.mk ?_ ?_|refine br_d (fun _=>?_) fun _=>?_|refine vM (fun _=>?_) fun _=>?_)
      refine ⟨_,?_,h⟩
      repeat' ((conv=>whnf); first|with_reducible exact True.intro|exact vW|with_reducible refine And.intro ?_ ?_)
      all_goals exact Chk.mk ⟨rfl,fun i _=>by dsimp only; (try rw [Nat.zero_add]); try rfl⟩
    ·rename_i hl0 hl
     rw [if_neg (fun q=>by omega),if_neg (fun q=>by omega)] at h
     repeat' (first|refine vz ?_|(conv=>whnf); first|with_reducible first|refine Sp.mk ?_ ?_|refine br_d (fun _=>?_) fun _=>?_|refine vM (fun _=>?_) fun _=>?_)
     refine ⟨_,?_,h⟩
     repeat' ((conv=>whnf); first|with_reducible exact True.intro|exact vW|with_reducible refine And.intro ?_ ?_)
     all_goals exact Chk.mk ⟨rfl,fun i _=>by dsimp only; (try rw [Nat.zero_add]); try rfl⟩
 ·have h:=h2 hO
  dsimp only
  rw [decide_eq_false hO]
  repeat' (first|refine vz ?_|(conv=>whnf); first|with_reducible first|refine Sp.mk ?_ ?_|refine br_d (fun _=>?_) fun _=>?_|refine vM (fun _=>?_) fun _=>?_)
  refine ⟨_,?_,h⟩
  repeat' ((conv=>whnf); first|with_reducible exact True.intro|exact vW|with_reducible refine And.intro ?_ ?_)
end Go.Proofs.YtgdbhjmpkkbnnaaGreatDoor.Vc
end
section
/- Part QO: lines to a desk, by both sides. -/
namespace Go.Proofs.YtgdbhjmpkkbnnaaGreatDoor.Vc
open Go.Proofs
set_option maxRecDepth 100000
set_option maxHeartbeats 4000000
structure Dls where
 d:Desk
 l:List ByteArray
open Classical in
noncomputable def sayX (d:Desk) (l:List ByteArray):Desk × List ByteArray:=if deskOk d∧l.length≤40 then sayD d l else (default,[])
theorem sayX_ok {d:Desk} {l:List ByteArray} (h:deskOk d) (g:l.length≤40):sayX d l=sayD d l:=if_pos ⟨h,g⟩
theorem sayX_no {d:Desk} {l:List ByteArray} (h:¬ (deskOk d∧l.length≤40)):sayX d l=(default,[]):=if_neg h
theorem sayD_len {d:Desk} (h:deskOk d) (l:List ByteArray):(sayD d l).2.length=l.length:=(sayD_ok h l).2.2
structure Rj where
 i:Nat
 e:Desk
 A:List ByteArray
def C314:List AV→(AV→Prop)→Prop:=con (X:=Dls) (fun x=>[enDe x.d,slS x.l]) (fun x=>deskI x.d∧(∀ s∈x.l,s.size≤1048576)∧x.l.length≤1048576) fun x K=>K (.tup [enDe (sayX x.d x.l).1,slS (sayX x.d x.l).2])
def C315:=C314
theorem F315:FF 16 C315:=by
 refine fitXE [(38,C139),(9,C313)] (by simp only [List.mem_cons,List.not_mem_nil,or_false]; rintro _ (rfl|rfl) <;> first|exact F139|exact F313) [(39,C198)] (by simp only [List.mem_cons,List.not_mem_nil,or_false]; rintro _ rfl; exact F198) Tryz.f16 ⟨rfl,by decide +kernel,by decide +kernel⟩ (fun _ _ _ hk h=>hk _ h) ?_
 rintro ⟨⟨⟨p,bs,rs⟩,past⟩,l⟩ K ⟨hI,hl,hll⟩ h
 refine ⟨Nat.le_of_ble_eq_true rfl,?_⟩
 dsimp only at hI hl hll h
 dsimp only [enDe,deC]
 repeat' (first|refine vz ?_|(conv=>whnf); first|with_reducible first|refine Sp.mk ?_ ?_|refine br_d (fun _=>?_) fun _=>?_|refine vM (fun _=>?_) fun _=>?_)
 refine ⟨⟨⟨p,bs,rs⟩,past⟩,?_,⟨hI⟩,?_⟩
 ·exact wq
 by_cases hO:deskOk ⟨⟨p,bs,rs⟩,past⟩
 ·dsimp only
  rw [decide_eq_true hO]
  by_cases h40:l.length≤40
  ·rw [sayX_ok hO h40] at h
   have hs:=deskOk_short hO
   repeat' (first|refine vz ?_|(conv=>whnf); first|with_reducible first|refine Sp.mk ?_ ?_|refine br_d (fun _=>?_) fun _=>?_|refine vM (fun _=>?_) fun _=>?_)
   refine ⟨_,_,[],[],rfl,?_,?_,⟨⟨p,bs,rs⟩,past⟩,rfl,rfl,⟨hs⟩,?_⟩
   ·exact wq
   ·exact wq
   dsimp only [deG,psO]
   repeat' (first|refine vz ?_|(conv=>whnf); first|with_reducible first|refine Sp.mk ?_ ?_|refine br_d (fun _=>?_) fun _=>?_|refine vM (fun _=>?_) fun _=>?_)
   refine Lp.mk ⟨Rj,fun x=>[(1,slS l),(4,.ptr 0 0),(7,.ptr 1 0),(6,.row 2 1 0 x.A.length),(8,.int .i64 x.i)],fun x=>[.box [.int .i64 0,.nils,.nils,.nils],.box [.int .i64 x.e.now.p,slI x.e.now.bs,slS x.e.now.rules,slP x.e.past],.row 1 x.A.length fun i=>encS (x.A.getD i ⟨#[]⟩)],fun x=>x.i≤l.length∧sayD ⟨⟨p,bs,rs⟩,past⟩ (l.take x.i)=(x.e,x.A),fun x=>l.length-x.i,⟨⟨0,⟨⟨p,bs,rs⟩,past⟩,[]⟩,⟨Nat.zero_le _,rfl⟩,?_⟩,?_⟩
   ·first|(refine ⟨⟨[some 1,some 3,none],[2],rfl,rfl,?_,?_⟩⟩ <;> (repeat' ((conv=>whnf); first|with_reducible exact True.intro|exact vW|with_reducible refine And.intro ?_ ?_|exact Chk.mk ⟨rfl,by dsimp only; omega,fun i _=>by dsimp only; (try rw [Nat.zero_add]); try rfl⟩)) <;> fail)|(refine ⟨⟨[some 1,some 2,none],[3],rfl,rfl,?_,?_⟩⟩ <;> (repeat' ((conv=>whnf); first|with_reducible exact True.intro|exact vW|with_reducible refine And.intro ?_ ?_|exact Chk.mk ⟨rfl,by dsimp only; omega,fun i _=>by dsimp only; (try rw [Nat.zero_add]); try rfl⟩)) <;> fail)
   rintro ⟨i,⟨⟨ep,eb,er⟩,el⟩,A⟩ ⟨i1,i2⟩
   dsimp only at i1 i2 ⊢
   have hOe:deskOk ⟨⟨ep,eb,er⟩,el⟩:=by have:=(sayD_ok hO (l.take i)).1; rw [i2] at this; exact this
   have hn:=sayD_len hO (l.take i)
   rw [i2,List.length_take] at hn
   dsimp only at hn
   by_cases hi:i<l.length
   ·have hst:=sayD_take (d:=⟨⟨p,bs,rs⟩,past⟩) hi
    rw [i2] at hst
    unfold sayF at hst
    dsimp only at hst
    have hs1:=hl _ (getD_mem' (d:=⟨#[]⟩) hi)
    generalize hA:l.getD i ⟨#[]⟩=s at hs1 hst
    have hA':l.getD (i:Int).toNat ⟨#[]⟩=s:=hA
    repeat' (first|refine vz ?_|(conv=>whnf); first|with_reducible first|refine Sp.mk ?_ ?_|refine br_d (fun _=>?_) fun _=>?_|refine vM (fun _=>?_) fun _=>?_)
    refine Dr.mk ⟨(.rd 0 (.rd 1 (.rd 2 (.rd 3 (.rd 4 (.ef 5 (.rd 6 (.rd 7 (.rd 8 (.ef 9 (.ef 10 (.rd 11 .dn) .no) .no)))) (.ef 9 (.ef 5 (.rd 6 (.rd 7 (.rd 8 (.ef 10 (.rd 11 .dn) .no)))) .no) .no))))))),by decide +kernel,?_⟩
    repeat' (first|refine vz ?_|(conv=>whnf); first|with_reducible first|refine Sp.mk ?_ ?_|refine br_d (fun _=>?_) fun _=>?_|refine vM (fun _=>?_) fun _=>?_)
    all_goals
     refine ⟨⟨⟨⟨ep,eb,er⟩,el⟩,s⟩,?_,⟨deskOk_I hOe,hs1⟩,?_⟩
     ·repeat' ((conv=>whnf); first|with_reducible exact True.intro|exact vW|with_reducible refine And.intro ?_ ?_)
      all_goals first|exact Chk.mk (by rw [hA'])
     refine ⟨fun _=>?_,fun q=>absurd hOe q⟩
     dsimp only
     generalize lineD ⟨⟨ep,eb,er⟩,el⟩ s=r at hst ⊢
     obtain ⟨⟨⟨fp,fb,fr⟩,fl⟩,w⟩:=r
     dsimp only [enDe,deC] at hst ⊢
     repeat' (first|refine vz ?_|(conv=>whnf); first|with_reducible first|refine Sp.mk ?_ ?_|refine br_d (fun _=>?_) fun _=>?_|refine vM (fun _=>?_) fun _=>?_)
     refine ⟨⟨i+1,⟨⟨fp,fb,fr⟩,fl⟩,A ++ [w]⟩,⟨by dsimp only; omega,hst⟩,by dsimp only; omega,?_⟩
     first|(refine ⟨⟨[some 0,some 1,some 5],[],rfl,rfl,?_,?_⟩⟩ <;> (repeat' ((conv=>whnf); first|with_reducible exact True.intro|exact vW|with_reducible refine And.intro ?_ ?_|exact Chk.mk ⟨rfl,by rw [List.length_append]; rfl⟩|exact Chk.mk (ext_push (enc:=encS) (d:=⟨#[]⟩) (l:=A) (x:=w) rfl))) <;> fail)|(refine ⟨⟨[some 0,some 1,some 4],[],rfl,rfl,?_,?_⟩⟩ <;> (repeat' ((conv=>whnf); first|with_reducible exact True.intro|exact vW|with_reducible refine And.intro ?_ ?_|exact Chk.mk ⟨rfl,by rw [List.length_append]; rfl⟩|exact Chk.mk (ext_push (enc:=encS) (d:=⟨#[]⟩) (l:=A) (x:=w) rfl))) <;> fail)
   ·obtain rfl:i=l.length:=by omega
    rw [List.take_length] at i2
    rw [i2] at h
    repeat' (first|refine vz ?_|(conv=>whnf); first|with_reducible first|refine Sp.mk ?_ ?_|refine br_d (fun _=>?_) fun _=>?_|refine vM (fun _=>?_) fun _=>?_)
    refine ⟨_,?_,h⟩
    repeat' ((conv=>whnf); first|with_reducible exact True.intro|exact vW|with_reducible refine And.intro ?_ ?_)
    all_goals exact Chk.mk ⟨rfl,fun i _=>by dsimp only; (try rw [Nat.zero_add]); try rfl⟩
  ·rw [sayX_no (fun q=>h40 q.2)] at h
   repeat' (first|refine vz ?_|(conv=>whnf); first|with_reducible first|refine Sp.mk ?_ ?_|refine br_d (fun _=>?_) fun _=>?_|refine vM (fun _=>?_) fun _=>?_)
   refine ⟨_,?_,h⟩
   repeat' ((conv=>whnf); first|with_reducible exact True.intro|exact vW|with_reducible refine And.intro ?_ ?_)
 ·dsimp only
  rw [decide_eq_false hO]
  rw [sayX_no (fun q=>hO q.1)] at h
  repeat' (first|refine vz ?_|(conv=>whnf); first|with_reducible first|refine Sp.mk ?_ ?_|refine br_d (fun _=>?_) fun _=>?_|refine vM (fun _=>?_) fun _=>?_)
  refine ⟨_,?_,h⟩
  repeat' ((conv=>whnf); first|with_reducible exact True.intro|exact vW|with_reducible refine And.intro ?_ ?_)
end Go.Proofs.YtgdbhjmpkkbnnaaGreatDoor.Vc
end
section
/- Part ND: lines to a desk, with nested memory of its own. -/
namespace Go.Proofs.YtgdbhjmpkkbnnaaGreatDoor.Vc
open Go.Proofs
set_option maxRecDepth 100000
set_option maxHeartbeats 4000000
def C312n:GC:=conG (X:=Ds) (fun x=>[enDe x.d,.str x.s]) (fun _=>[]) (fun x=>deskOk x.d∧x.s.size≤1048576) fun x K=>K (.tup [deN (lineD x.d x.s).1,.str (lineD x.d x.s).2]) (deO (lineD x.d x.s).1)
theorem F312n:GG 49 C312n:=by
 refine fitG [(92,C258),(93,C316)] (by simp only [List.mem_cons,List.not_mem_nil,or_false]; rintro _ (rfl|rfl) <;> first|exact F258|exact F316) [(60,C254n),(56,C261n)] (by simp only [List.mem_cons,List.not_mem_nil,or_false]; rintro _ (rfl|rfl) <;> first|exact F254n|exact F261n) Tryz.f49 ⟨rfl,by decide +kernel,by decide +kernel⟩ (by intro x K K2 hk h; (try dsimp only at h ⊢); intros; apply hk; first|exact h|(apply h <;> assumption)) ?_
 rintro ⟨⟨⟨p,bs,rs⟩,l⟩,s⟩ K ⟨hO,hs⟩ h
 refine ⟨Nat.le_of_ble_eq_true rfl,?_⟩
 dsimp only at hO hs h
 have hI:=deskOk_I hO
 have hsh:=deskOk_short hO
 dsimp only [enDe,deC] at ⊢
 repeat' (first|refine vz ?_|(conv=>whnf); first|with_reducible first|refine Sp.mk ?_ ?_|refine br_d (fun _=>?_) fun _=>?_|refine vM (fun _=>?_) fun _=>?_)
 refine ⟨s,?_,⟨hs⟩,?_⟩
 ·exact wq
 refine ⟨fun a ha=>?_,fun hno=>?_⟩
 ·rw [lineD_deed ha] at h
  have hda:=okDd_I ha hs
  obtain ⟨k,x,y,w⟩:=a
  dsimp only [ded,encD] at h ⊢
  repeat' (first|refine vz ?_|(conv=>whnf); first|with_reducible first|refine Sp.mk ?_ ?_|refine br_d (fun _=>?_) fun _=>?_|refine vM (fun _=>?_) fun _=>?_)
  refine ⟨_,_,[],[],rfl,?_,?_,⟨⟨⟨p,bs,rs⟩,l⟩,⟨k,x,y,w⟩⟩,rfl,rfl,⟨hI,hO,hda⟩,?_⟩
  ·exact wq
  ·exact wq
  dsimp only
  generalize (doD ⟨⟨p,bs,rs⟩,l⟩ ⟨k,x,y,w⟩).isSome=ok at h ⊢
  generalize (doD ⟨⟨p,bs,rs⟩,l⟩ ⟨k,x,y,w⟩).getD ⟨⟨p,bs,rs⟩,l⟩=e at h ⊢
  obtain ⟨⟨ep,eb,er⟩,el⟩:=e
  dsimp only [deN,deO,npO] at h ⊢
  cases ok
  ·rw [if_neg Bool.false_ne_true] at h
   repeat' (first|refine vz ?_|(conv=>whnf); first|with_reducible first|refine Sp.mk ?_ ?_|refine br_d (fun _=>?_) fun _=>?_|refine vM (fun _=>?_) fun _=>?_)
   first
    |(refine ⟨_,_,[some 1,some 2,some 3],[],rfl,rfl,?_,?_,h⟩ <;> (repeat' ((conv=>whnf); first|with_reducible exact True.intro|exact vW|with_reducible refine And.intro ?_ ?_)) <;> fail)
    |(refine ⟨_,_,[some 2,some 3,some 4],[],rfl,rfl,?_,?_,h⟩ <;> (repeat' ((conv=>whnf); first|with_reducible exact True.intro|exact vW|with_reducible refine And.intro ?_ ?_)) <;> fail)
    |(refine ⟨_,_,[some 3,some 4,some 5],[],rfl,rfl,?_,?_,h⟩ <;> (repeat' ((conv=>whnf); first|with_reducible exact True.intro|exact vW|with_reducible refine And.intro ?_ ?_)) <;> fail)
  ·rw [if_pos rfl] at h
   repeat' (first|refine vz ?_|(conv=>whnf); first|with_reducible first|refine Sp.mk ?_ ?_|refine br_d (fun _=>?_) fun _=>?_|refine vM (fun _=>?_) fun _=>?_)
   first
    |(refine ⟨_,_,[some 1,some 2,some 3],[],rfl,rfl,?_,?_,h⟩ <;> (repeat' ((conv=>whnf); first|with_reducible exact True.intro|exact vW|with_reducible refine And.intro ?_ ?_)) <;> fail)
    |(refine ⟨_,_,[some 2,some 3,some 4],[],rfl,rfl,?_,?_,h⟩ <;> (repeat' ((conv=>whnf); first|with_reducible exact True.intro|exact vW|with_reducible refine And.intro ?_ ?_)) <;> fail)
    |(refine ⟨_,_,[some 3,some 4,some 5],[],rfl,rfl,?_,?_,h⟩ <;> (repeat' ((conv=>whnf); first|with_reducible exact True.intro|exact vW|with_reducible refine And.intro ?_ ?_)) <;> fail)
 ·rw [lineD_ask hno] at h
  dsimp only [ded,encD,deN,deO,npO] at h ⊢
  repeat' (first|refine vz ?_|(conv=>whnf); first|with_reducible first|refine Sp.mk ?_ ?_|refine br_d (fun _=>?_) fun _=>?_|refine vM (fun _=>?_) fun _=>?_)
  refine Dr.mk ⟨(.rd 0 (.rd 2 (.rd 3 (.rd 4 (.ef 1 (.ef 5 (.ef 6 (.rd 7 .dn) .no) .no) .no))))),by decide +kernel,?_⟩
  repeat' (first|refine vz ?_|(conv=>whnf); first|with_reducible first|refine Sp.mk ?_ ?_|refine br_d (fun _=>?_) fun _=>?_|refine vM (fun _=>?_) fun _=>?_)
  refine ⟨_,_,[],[],rfl,?_,?_,⟨⟨p,bs,rs⟩,l⟩,rfl,rfl,⟨hsh⟩,?_⟩
  ·exact wq
  ·exact wq
  dsimp only [deN,deO,npO]
  repeat' (first|refine vz ?_|(conv=>whnf); first|with_reducible first|refine Sp.mk ?_ ?_|refine br_d (fun _=>?_) fun _=>?_|refine vM (fun _=>?_) fun _=>?_)
  refine ⟨⟨⟨p,bs,rs⟩,s⟩,?_,⟨⟨hI.1,hO.1⟩,hs⟩,?_⟩
  ·exact wq
  dsimp only
  repeat' (first|refine vz ?_|(conv=>whnf); first|with_reducible first|refine Sp.mk ?_ ?_|refine br_d (fun _=>?_) fun _=>?_|refine vM (fun _=>?_) fun _=>?_)
  first
   |(refine ⟨_,_,[some 1,some 2,some 3],[],rfl,rfl,?_,?_,h⟩ <;> (repeat' ((conv=>whnf); first|with_reducible exact True.intro|exact vW|with_reducible refine And.intro ?_ ?_)) <;> fail)
   |(refine ⟨_,_,[some 2,some 3,some 4],[],rfl,rfl,?_,?_,h⟩ <;> (repeat' ((conv=>whnf); first|with_reducible exact True.intro|exact vW|with_reducible refine And.intro ?_ ?_)) <;> fail)
   |(refine ⟨_,_,[some 3,some 4,some 5],[],rfl,rfl,?_,?_,h⟩ <;> (repeat' ((conv=>whnf); first|with_reducible exact True.intro|exact vW|with_reducible refine And.intro ?_ ?_)) <;> fail)
def C311n:GC:=conG (X:=Ds) (fun x=>[enDe x.d,.str x.s]) (fun _=>[]) (fun x=>deskI x.d∧x.s.size≤1048576) fun x K=>(deskOk x.d→K (.tup [deN (lineD x.d x.s).1,.str (lineD x.d x.s).2]) (deO (lineD x.d x.s).1))∧(¬ deskOk x.d→K (.tup [deN default,.str ⟨#[]⟩]) (deO default))
theorem F311n:GG 11 C311n:=by
 refine fitG [(48,C159)] (by simp only [List.mem_cons,List.not_mem_nil,or_false]; rintro _ rfl <;> first|exact F159) [(49,C312n)] (by simp only [List.mem_cons,List.not_mem_nil,or_false]; rintro _ rfl <;> first|exact F312n) Tryz.f11 ⟨rfl,by decide +kernel,by decide +kernel⟩ (fun _ _ _ hk h=>⟨fun q=>hk _ _ (h.1 q),fun q=>hk _ _ (h.2 q)⟩) ?_
 rintro ⟨⟨⟨p,bs,rs⟩,l⟩,s⟩ K ⟨hI,hs⟩ ⟨h1,h2⟩
 refine ⟨Nat.le_of_ble_eq_true rfl,?_⟩
 dsimp only at hI hs h1 h2
 dsimp only [enDe,deC]
 repeat' (first|refine vz ?_|(conv=>whnf); first|with_reducible first|refine Sp.mk ?_ ?_|refine br_d (fun _=>?_) fun _=>?_|refine vM (fun _=>?_) fun _=>?_)
 refine ⟨⟨⟨p,bs,rs⟩,l⟩,?_,⟨hI⟩,?_⟩
 ·exact wq
 by_cases hO:deskOk ⟨⟨p,bs,rs⟩,l⟩
 ·have h:=h1 hO
  dsimp only
  rw [decide_eq_true hO]
  repeat' (first|refine vz ?_|(conv=>whnf); first|with_reducible first|refine Sp.mk ?_ ?_|refine br_d (fun _=>?_) fun _=>?_|refine vM (fun _=>?_) fun _=>?_)
  refine ⟨_,_,[],[],rfl,?_,?_,⟨⟨⟨p,bs,rs⟩,l⟩,s⟩,rfl,rfl,⟨hO,hs⟩,?_⟩
  ·exact wq
  ·exact wq
  dsimp only
  generalize lineD ⟨⟨p,bs,rs⟩,l⟩ s=r at h ⊢
  obtain ⟨⟨⟨ep,eb,er⟩,el⟩,w⟩:=r
  dsimp only [deN,deO,npO] at h ⊢
  repeat' (first|refine vz ?_|(conv=>whnf); first|with_reducible first|refine Sp.mk ?_ ?_|refine br_d (fun _=>?_) fun _=>?_|refine vM (fun _=>?_) fun _=>?_)
  refine ⟨_,_,[some 2,some 3,some 4],[],rfl,rfl,?_,?_,h⟩
  ·exact wq
  ·exact wq
 ·have h:=h2 hO
  dsimp only
  rw [decide_eq_false hO]
  repeat' (first|refine vz ?_|(conv=>whnf); first|with_reducible first|refine Sp.mk ?_ ?_|refine br_d (fun _=>?_) fun _=>?_|refine vM (fun _=>?_) fun _=>?_)
  refine ⟨_,_,[none,none,none],[],rfl,rfl,?_,?_,h⟩
  ·exact wq
  ·exact wq
def anO (l:List ByteArray):Obj:=.row 1 l.length fun i=>encS (l.getD i ⟨#[]⟩)
def C314n:GC:=conG (X:=Dls) (fun x=>[enDe x.d,slS x.l]) (fun _=>[]) (fun x=>deskI x.d∧(∀ s∈x.l,s.size≤1048576)∧x.l.length≤1048576) fun x K=>K (.tup [deN (sayX x.d x.l).1,.row 3 1 0 (sayX x.d x.l).2.length]) (deO (sayX x.d x.l).1 ++ [anO (sayX x.d x.l).2])
theorem F314n:GG 18 C314n:=by
 refine fitG [(48,C159)] (by simp only [List.mem_cons,List.not_mem_nil,or_false]; rintro _ rfl <;> first|exact F159) [(49,C312n),(56,C261n)] (by simp only [List.mem_cons,List.not_mem_nil,or_false]; rintro _ (rfl|rfl) <;> first|exact F312n|exact F261n) Tryz.f18 ⟨rfl,by decide +kernel,by decide +kernel⟩ (by intro x K K2 hk h; (try dsimp only at h ⊢); intros; apply hk; first|exact h|(apply h <;> assumption)) ?_
 rintro ⟨⟨⟨p,bs,rs⟩,past⟩,l⟩ K ⟨hI,hl,hll⟩ h
 refine ⟨Nat.le_of_ble_eq_true rfl,?_⟩
 dsimp only at hI hl hll h
 dsimp only [enDe,deC]
 repeat' (first|refine vz ?_|(conv=>whnf); first|with_reducible first|refine Sp.mk ?_ ?_|refine br_d (fun _=>?_) fun _=>?_|refine vM (fun _=>?_) fun _=>?_)
 refine ⟨⟨⟨p,bs,rs⟩,past⟩,?_,⟨hI⟩,?_⟩
 ·exact wq
 by_cases hO:deskOk ⟨⟨p,bs,rs⟩,past⟩
 ·dsimp only
  rw [decide_eq_true hO]
  by_cases h40:l.length≤40
  ·rw [sayX_ok hO h40] at h
   have hs:=deskOk_short hO
   repeat' (first|refine vz ?_|(conv=>whnf); first|with_reducible first|refine Sp.mk ?_ ?_|refine br_d (fun _=>?_) fun _=>?_|refine vM (fun _=>?_) fun _=>?_)
   refine ⟨_,_,[],[],rfl,?_,?_,⟨⟨p,bs,rs⟩,past⟩,rfl,rfl,⟨hs⟩,?_⟩
   ·exact wq
   ·exact wq
   dsimp only [deN,deO,npO]
   repeat' (first|refine vz ?_|(conv=>whnf); first|with_reducible first|refine Sp.mk ?_ ?_|refine br_d (fun _=>?_) fun _=>?_|refine vM (fun _=>?_) fun _=>?_)
   refine Lp.mk ⟨Rj,fun x=>[(2,.ptr 0 0),(4,.ptr 1 0),(6,.row 5 1 0 x.A.length),(23,slS l),(24,.int .i64 l.length),(25,.int .i64 x.i)],fun x=>[.box [.int .i64 x.e.now.p,.row 2 1 0 x.e.now.bs.length,.row 3 1 0 x.e.now.rules.length,.row 4 3 0 x.e.past.length],.box [.int .i64 0,.nils,.nils,.nils],.row 1 x.e.now.bs.length fun i=>encI (x.e.now.bs.getD i 0),.row 1 x.e.now.rules.length fun i=>encS (x.e.now.rules.getD i ⟨#[]⟩),npO x.e.past,anO x.A],fun x=>x.i≤l.length∧sayD ⟨⟨p,bs,rs⟩,past⟩ (l.take x.i)=(x.e,x.A),fun x=>l.length-x.i,⟨⟨0,⟨⟨p,bs,rs⟩,past⟩,[]⟩,⟨Nat.zero_le _,rfl⟩,?_⟩,?_⟩
   ·first|(refine ⟨⟨[some 0,some 1,some 2,some 3,some 4,none],[],rfl,rfl,?_,?_⟩⟩ <;> (repeat' ((conv=>whnf); first|with_reducible exact True.intro|exact vW|with_reducible refine And.intro ?_ ?_)) <;> fail)
   rintro ⟨i,⟨⟨ep,eb,er⟩,el⟩,A⟩ ⟨i1,i2⟩
   dsimp only [npO,anO] at i1 i2 ⊢
   have hOe:deskOk ⟨⟨ep,eb,er⟩,el⟩:=by have:=(sayD_ok hO (l.take i)).1; rw [i2] at this; exact this
   have hn:=sayD_len hO (l.take i)
   rw [i2,List.length_take] at hn
   dsimp only at hn
   by_cases hi:i<l.length
   ·have hst:=sayD_take (d:=⟨⟨p,bs,rs⟩,past⟩) hi
    rw [i2] at hst
    unfold sayF at hst
    dsimp only at hst
    have hs1:=hl _ (getD_mem' (d:=⟨#[]⟩) hi)
    generalize hA:l.getD i ⟨#[]⟩=s at hs1 hst
    have hA':l.getD (i:Int).toNat ⟨#[]⟩=s:=hA
    repeat' (first|refine vz ?_|(conv=>whnf); first|with_reducible first|refine Sp.mk ?_ ?_|refine br_d (fun _=>?_) fun _=>?_|refine vM (fun _=>?_) fun _=>?_)
    refine ⟨_,_,[],[2,3,4],rfl,?_,?_,⟨⟨⟨ep,eb,er⟩,el⟩,s⟩,rfl,rfl,⟨hOe,hs1⟩,⟨rfl,sca_de _⟩,?_⟩
    ·repeat' ((conv=>whnf); first|with_reducible exact True.intro|exact vW|with_reducible refine And.intro ?_ ?_)
     all_goals first|exact Chk.mk (by rw [hA'])|exact Chk.mk ⟨rfl,by omega,fun i _=>by dsimp only; (try rw [Nat.zero_add]); try rfl⟩
    ·exact wq
    dsimp only
    generalize lineD ⟨⟨ep,eb,er⟩,el⟩ s=r at hst ⊢
    obtain ⟨⟨⟨fp,fb,fr⟩,fl⟩,w⟩:=r
    dsimp only [deN,deO,npO] at hst ⊢
    repeat' (first|refine vz ?_|(conv=>whnf); first|with_reducible first|refine Sp.mk ?_ ?_|refine br_d (fun _=>?_) fun _=>?_|refine vM (fun _=>?_) fun _=>?_)
    refine ⟨⟨i+1,⟨⟨fp,fb,fr⟩,fl⟩,A ++ [w]⟩,⟨by dsimp only; omega,hst⟩,by dsimp only; omega,?_⟩
    first|(refine ⟨⟨[some 0,some 1,some 6,some 7,some 8,some 10],[],rfl,rfl,?_,?_⟩⟩ <;> (repeat' ((conv=>whnf); first|with_reducible exact True.intro|exact vW|with_reducible refine And.intro ?_ ?_|exact Chk.mk ⟨rfl,by rw [List.length_append]; rfl⟩|exact Chk.mk (ext_push (enc:=encS) (d:=⟨#[]⟩) (l:=A) (x:=w) rfl))) <;> fail)|(refine ⟨⟨[some 0,some 1,some 6,some 7,some 8,some 11],[],rfl,rfl,?_,?_⟩⟩ <;> (repeat' ((conv=>whnf); first|with_reducible exact True.intro|exact vW|with_reducible refine And.intro ?_ ?_|exact Chk.mk ⟨rfl,by rw [List.length_append]; rfl⟩|exact Chk.mk (ext_push (enc:=encS) (d:=⟨#[]⟩) (l:=A) (x:=w) rfl))) <;> fail)|(refine ⟨⟨[some 0,some 1,some 7,some 8,some 9,some 11],[],rfl,rfl,?_,?_⟩⟩ <;> (repeat' ((conv=>whnf); first|with_reducible exact True.intro|exact vW|with_reducible refine And.intro ?_ ?_|exact Chk.mk ⟨rfl,by rw [List.length_append]; rfl⟩|exact Chk.mk (ext_push (enc:=encS) (d:=⟨#[]⟩) (l:=A) (x:=w) rfl))) <;> fail)
   ·obtain rfl:i=l.length:=by omega
    rw [List.take_length] at i2
    rw [i2] at h
    dsimp only [deN,deO,npO,anO] at h
    repeat' (first|refine vz ?_|(conv=>whnf); first|with_reducible first|refine Sp.mk ?_ ?_|refine br_d (fun _=>?_) fun _=>?_|refine vM (fun _=>?_) fun _=>?_)
    refine ⟨_,_,[some 2,some 3,some 4,some 5],[],rfl,rfl,?_,?_,h⟩
    ·exact wq
    ·exact wq
  ·rw [sayX_no (fun q=>h40 q.2)] at h
   repeat' (first|refine vz ?_|(conv=>whnf); first|with_reducible first|refine Sp.mk ?_ ?_|refine br_d (fun _=>?_) fun _=>?_|refine vM (fun _=>?_) fun _=>?_)
   refine ⟨_,_,[none,none,none,none],[],rfl,rfl,?_,?_,h⟩
   ·exact wq
   ·exact wq
 ·dsimp only
  rw [decide_eq_false hO]
  rw [sayX_no (fun q=>hO q.1)] at h
  repeat' (first|refine vz ?_|(conv=>whnf); first|with_reducible first|refine Sp.mk ?_ ?_|refine br_d (fun _=>?_) fun _=>?_|refine vM (fun _=>?_) fun _=>?_)
  refine ⟨_,_,[none,none,none,none],[],rfl,rfl,?_,?_,h⟩
  ·exact wq
  ·exact wq
end Go.Proofs.YtgdbhjmpkkbnnaaGreatDoor.Vc
end
section
/- Part NN: the law that lines to desks share no memory. -/
namespace Go.Proofs.YtgdbhjmpkkbnnaaGreatDoor.Vc
open Go.Proofs
set_option maxRecDepth 100000
set_option maxHeartbeats 8000000
noncomputable def lineX (d:Desk) (s:ByteArray):Desk × ByteArray:=if deskOk d then lineD d s else (default,⟨#[]⟩)
theorem of_lineX {d:Desk} {s:ByteArray} {K:AV→List Obj→Prop} (h:K (.tup [deN (lineX d s).1,.str (lineX d s).2]) (deO (lineX d s).1)):(deskOk d→K (.tup [deN (lineD d s).1,.str (lineD d s).2]) (deO (lineD d s).1))∧(¬ deskOk d→K (.tup [deN default,.str ⟨#[]⟩]) (deO default)):=by
 unfold lineX at h
 exact ⟨fun q=>by rw [if_pos q] at h; exact h,fun q=>by rw [if_neg q] at h; exact h⟩
theorem of_lineE {d:Desk} {s:ByteArray} {K:AV→Prop} (h:K (.tup [enDe (lineX d s).1,.str (lineX d s).2])):(deskOk d→K (.tup [enDe (lineD d s).1,.str (lineD d s).2]))∧(¬ deskOk d→K (.tup [enDe default,.str ⟨#[]⟩])):=by
 unfold lineX at h
 exact ⟨fun q=>by rw [if_pos q] at h; exact h,fun q=>by rw [if_neg q] at h; exact h⟩
theorem lineX_R (d:Desk) (s:ByteArray):okAn (lineX d s).1:=by
 unfold lineX
 by_cases h:deskOk d
 ·rw [if_pos h]
  exact .inl (lineD_ok h)
 ·rw [if_neg h]
  exact .inr rfl
def C311x:GC:=conG (X:=Ds) (fun x=>[enDe x.d,.str x.s]) (fun _=>[]) (fun x=>deskI x.d∧x.s.size≤1048576) fun x K=>K (.tup [deN (lineX x.d x.s).1,.str (lineX x.d x.s).2]) (deO (lineX x.d x.s).1)
theorem F311x:GG 11 C311x:=fun w hw=>⟨(F311n w hw).has,fun _ _ _ _ hk ⟨x,h1,h2,h3,h⟩=>⟨x,h1,h2,h3,hk _ _ h⟩,fun us og K ⟨x,h1,h2,h3,h⟩=>(F311n w hw).ok us og K ⟨x,h1,h2,h3,of_lineX h⟩⟩
def C313x:List AV→(AV→Prop)→Prop:=con (X:=Ds) (fun x=>[enDe x.d,.str x.s]) (fun x=>deskI x.d∧x.s.size≤1048576) fun x K=>K (.tup [enDe (lineX x.d x.s).1,.str (lineX x.d x.s).2])
theorem F313x:FF 9 C313x:=fun w hw=>⟨(F313 w hw).has,fun _ _ _ hk ⟨x,h1,h2,h⟩=>⟨x,h1,h2,hk _ h⟩,fun us K ⟨x,h1,h2,h⟩=>(F313 w hw).ok us K ⟨x,h1,h2,of_lineE h⟩⟩
def C370:List AV→(AV→Prop)→Prop:=con (X:=Desk × ByteArray) (fun x=>[enDe x.1,.str x.2]) (fun x=>deskI x.1∧x.2.size<9223372036854775808) fun _ K=>K (.bool true)
theorem F370:FF 3 C370:=by
 refine fitX [(8,C138),(9,C313x),(12,C141),(14,C150n)] (by simp only [List.mem_cons,List.not_mem_nil,or_false]; rintro _ (rfl|rfl|rfl|rfl) <;> first|exact F138|exact F313x|exact F141|exact F150n) [(10,C140o),(11,C311x),(13,C149n)] (by simp only [List.mem_cons,List.not_mem_nil,or_false]; rintro _ (rfl|rfl|rfl) <;> first|exact F140o|exact F311x|exact F149n) Tryz.f3 ⟨rfl,by decide +kernel,by decide +kernel⟩ (fun _ _ _ hk h=>hk _ h) ?_
 rintro ⟨⟨⟨p,bs,rs⟩,l⟩,s⟩ K ⟨hI,hS⟩ h
 refine ⟨Nat.le_of_ble_eq_true rfl,?_⟩
 dsimp only [enDe,deC] at hI hS ⊢
 by_cases hs:1048576<s.size
 ·repeat' (first|refine vz ?_|(conv=>whnf); first|with_reducible first|refine Sp.mk ?_ ?_|refine br_d (fun _=>?_) fun _=>?_|refine vM (fun _=>?_) fun _=>?_)
  exact h
 repeat' (first|refine vz ?_|(conv=>whnf); first|with_reducible first|refine Sp.mk ?_ ?_|refine br_d (fun _=>?_) fun _=>?_|refine vM (fun _=>?_) fun _=>?_)
 refine ⟨(⟨⟨p,bs,rs⟩,l⟩,1048576),?_,⟨hI,by dsimp only; omega,by dsimp only; omega⟩,?_⟩
 ·exact wq
 intro v v1 v2 v3
 dsimp only at v2 v3
 repeat' (first|refine vz ?_|(conv=>whnf); first|with_reducible first|refine Sp.mk ?_ ?_|refine br_d (fun _=>?_) fun _=>?_|refine vM (fun _=>?_) fun _=>?_)
 ·exact h
 rename_i hv
 have hok:=fitDe_ok (v3 (by omega))
 have hs':s.size≤1048576:=by omega
 have hR:=lineX_R ⟨⟨p,bs,rs⟩,l⟩ s
 obtain ⟨e,he⟩:∃ e,(lineX ⟨⟨p,bs,rs⟩,l⟩ s).1=e:=⟨_,rfl⟩
 obtain ⟨o,ho⟩:∃ o,(lineX ⟨⟨p,bs,rs⟩,l⟩ s).2=o:=⟨_,rfl⟩
 rw [he] at hR
 have e1:=okAn_len hR
 have e2:=okAn_mds hR
 have e3:=okAn_mkM hR
 have d1:=okDe_len hok
 have d2:=okDe_mds hok
 have d3:=okDe_mkM hok
 obtain ⟨⟨ep,eb,er⟩,el⟩:=e
 refine ⟨_,_,[],[],rfl,?_,?_,.inr ⟨⟨⟨p,bs,rs⟩,l⟩,rfl,rfl,⟨hok⟩,?_⟩⟩
 ·exact wq
 ·exact wq
 dsimp only [enDe,deC,deN,deO,npO]
 repeat' (first|refine vz ?_|(conv=>whnf); first|with_reducible first|refine Sp.mk ?_ ?_|refine br_d (fun _=>?_) fun _=>?_|refine vM (fun _=>?_) fun _=>?_)
 refine ⟨⟨⟨⟨p,bs,rs⟩,l⟩,s⟩,?_,⟨hI,hs'⟩,?_⟩
 ·exact wq
 dsimp only
 rw [he,ho]
 dsimp only [enDe,deC]
 repeat' (first|refine vz ?_|(conv=>whnf); first|with_reducible first|refine Sp.mk ?_ ?_|refine br_d (fun _=>?_) fun _=>?_|refine vM (fun _=>?_) fun _=>?_)
 refine ⟨_,_,[],[],rfl,?_,?_,.inl ⟨⟨⟨p,bs,rs⟩,l⟩,rfl,rfl,⟨hok⟩,?_⟩⟩
 ·exact wq
 ·exact wq
 dsimp only [enDe,deC,deN,deO,npO]
 repeat' (first|refine vz ?_|(conv=>whnf); first|with_reducible first|refine Sp.mk ?_ ?_|refine br_d (fun _=>?_) fun _=>?_|refine vM (fun _=>?_) fun _=>?_)
 refine ⟨_,_,[],[2,3,4],rfl,?_,?_,⟨⟨⟨p,bs,rs⟩,l⟩,s⟩,rfl,rfl,⟨hI,hs'⟩,⟨rfl,sca_de _⟩,?_⟩
 ·repeat' ((conv=>whnf); first|with_reducible exact True.intro|exact vW|with_reducible refine And.intro ?_ ?_)
  all_goals exact Chk.mk ⟨rfl,by omega,fun i _=>by dsimp only; rw [Nat.zero_add]⟩
 ·exact wq
 dsimp only
 rw [he,ho]
 dsimp only [deN,deO,npO]
 repeat' (first|refine vz ?_|(conv=>whnf); first|with_reducible first|refine Sp.mk ?_ ?_|refine br_d (fun _=>?_) fun _=>?_|refine vM (fun _=>?_) fun _=>?_)
 refine ⟨⟨⟨ep,eb,er⟩,el⟩,?_,⟨e1⟩,?_⟩
 ·repeat' ((conv=>whnf); first|with_reducible exact True.intro|exact vW|with_reducible refine And.intro ?_ ?_)
  all_goals exact Chk.mk ⟨rfl,fun i _=>by dsimp only; rw [Nat.zero_add]⟩
 repeat' (first|refine vz ?_|(conv=>whnf); first|with_reducible first|refine Sp.mk ?_ ?_|refine br_d (fun _=>?_) fun _=>?_|refine vM (fun _=>?_) fun _=>?_)
 refine Dr.mk ⟨(.rd 0 (.rd 1 (.ef 2 (.ef 3 (.rd 4 .dn) .no) .no))),by decide +kernel,?_⟩
 repeat' (first|refine vz ?_|(conv=>whnf); first|with_reducible first|refine Sp.mk ?_ ?_|refine br_d (fun _=>?_) fun _=>?_|refine vM (fun _=>?_) fun _=>?_)
 refine ⟨_,_,[],[],rfl,?_,?_,.inr ⟨⟨⟨p,bs,rs⟩,l⟩,rfl,rfl,⟨hok⟩,?_⟩⟩
 ·exact wq
 ·exact wq
 dsimp only [enDe,deC,deN,deO,npO]
 repeat' (first|refine vz ?_|(conv=>whnf); first|with_reducible first|refine Sp.mk ?_ ?_|refine br_d (fun _=>?_) fun _=>?_|refine vM (fun _=>?_) fun _=>?_)
 refine ⟨⟨⟨p,bs,rs⟩,l⟩,?_,⟨d1⟩,?_⟩
 ·repeat' ((conv=>whnf); first|with_reducible exact True.intro|exact vW|with_reducible refine And.intro ?_ ?_)
  all_goals exact Chk.mk ⟨rfl,fun i _=>by dsimp only; rw [Nat.zero_add]⟩
 repeat' (first|refine vz ?_|(conv=>whnf); first|with_reducible first|refine Sp.mk ?_ ?_|refine br_d (fun _=>?_) fun _=>?_|refine vM (fun _=>?_) fun _=>?_)
 refine ⟨_,_,[2,3,4],[],rfl,?_,?_,⟨⟨⟨p,bs,rs⟩,l⟩,1⟩,rfl,rfl,⟨d2⟩,?_⟩
 ·exact wq
 ·exact wq
 dsimp only
 rw [deM_eq]
 dsimp only [deM]
 repeat' (first|refine vz ?_|(conv=>whnf); first|with_reducible first|refine Sp.mk ?_ ?_|refine br_d (fun _=>?_) fun _=>?_|refine vM (fun _=>?_) fun _=>?_)
 refine ⟨⟨⟨ep,eb,er⟩,el⟩,?_,⟨e1⟩,?_⟩
 ·repeat' ((conv=>whnf); first|with_reducible exact True.intro|exact vW|with_reducible refine And.intro ?_ ?_)
  all_goals exact Chk.mk ⟨rfl,fun i _=>by dsimp only; rw [Nat.zero_add]⟩
 repeat' (first|refine vz ?_|(conv=>whnf); first|with_reducible first|refine Sp.mk ?_ ?_|refine br_d (fun _=>?_) fun _=>?_|refine vM (fun _=>?_) fun _=>?_)
 refine ⟨_,_,[6,7,8],[],rfl,?_,?_,⟨⟨⟨ep,eb,er⟩,el⟩,1⟩,rfl,rfl,⟨e2⟩,?_⟩
 ·exact wq
 ·exact wq
 dsimp only
 rw [deM_eq]
 dsimp only [deM]
 repeat' (first|refine vz ?_|(conv=>whnf); first|with_reducible first|refine Sp.mk ?_ ?_|refine br_d (fun _=>?_) fun _=>?_|refine vM (fun _=>?_) fun _=>?_)
 refine ⟨⟨⟨⟨ep,eb,er⟩,el⟩,1⟩,?_,⟨e2⟩,?_⟩
 ·repeat' ((conv=>whnf); first|with_reducible exact True.intro|exact vW|with_reducible refine And.intro ?_ ?_)
  all_goals first|exact Chk.mk ⟨(mksI_len _ _).symm,fun i _=>by dsimp only; rw [Nat.zero_add]; rfl⟩|exact Chk.mk ⟨(mksS_len _ _).symm,fun i _=>by dsimp only; rw [Nat.zero_add]; rfl⟩|exact Chk.mk ⟨(mkPs_len _ _).symm,fun i _=>by dsimp only; rw [Nat.zero_add]; rfl⟩
 dsimp only
 repeat' (first|refine vz ?_|(conv=>whnf); first|with_reducible first|refine Sp.mk ?_ ?_|refine br_d (fun _=>?_) fun _=>?_|refine vM (fun _=>?_) fun _=>?_)
 refine ⟨_,_,[],[],rfl,?_,?_,.inr ⟨⟨⟨p,bs,rs⟩,l⟩,rfl,rfl,⟨hok⟩,?_⟩⟩
 ·exact wq
 ·exact wq
 dsimp only [enDe,deC,deN,deO,npO]
 repeat' (first|refine vz ?_|(conv=>whnf); first|with_reducible first|refine Sp.mk ?_ ?_|refine br_d (fun _=>?_) fun _=>?_|refine vM (fun _=>?_) fun _=>?_)
 refine ⟨_,_,[],[],rfl,?_,?_,⟨⟨⟨p,bs,rs⟩,l⟩,s⟩,rfl,rfl,⟨hI,hs'⟩,?_⟩
 ·exact wq
 ·exact wq
 dsimp only
 rw [he,ho]
 dsimp only [deN,deO,npO]
 repeat' (first|refine vz ?_|(conv=>whnf); first|with_reducible first|refine Sp.mk ?_ ?_|refine br_d (fun _=>?_) fun _=>?_|refine vM (fun _=>?_) fun _=>?_)
 refine ⟨⟨⟨ep,eb,er⟩,el⟩,?_,⟨e1⟩,?_⟩
 ·repeat' ((conv=>whnf); first|with_reducible exact True.intro|exact vW|with_reducible refine And.intro ?_ ?_)
  all_goals exact Chk.mk ⟨rfl,fun i _=>by dsimp only; rw [Nat.zero_add]⟩
 repeat' (first|refine vz ?_|(conv=>whnf); first|with_reducible first|refine Sp.mk ?_ ?_|refine br_d (fun _=>?_) fun _=>?_|refine vM (fun _=>?_) fun _=>?_)
 refine ⟨⟨⟨⟨ep,eb,er⟩,el⟩,1⟩,?_,⟨e2⟩,?_⟩
 ·repeat' ((conv=>whnf); first|with_reducible exact True.intro|exact vW|with_reducible refine And.intro ?_ ?_)
  all_goals first|exact Chk.mk ⟨(mksI_len _ _).symm,fun i _=>by dsimp only; rw [Nat.zero_add]; rfl⟩|exact Chk.mk ⟨(mksS_len _ _).symm,fun i _=>by dsimp only; rw [Nat.zero_add]; rfl⟩|exact Chk.mk ⟨(mkPs_len _ _).symm,fun i _=>by dsimp only; rw [Nat.zero_add]; rfl⟩
 dsimp only
 repeat' (first|refine vz ?_|(conv=>whnf); first|with_reducible first|refine Sp.mk ?_ ?_|refine br_d (fun _=>?_) fun _=>?_|refine vM (fun _=>?_) fun _=>?_)
 exact h
 all_goals exact absurd rfl (by assumption:¬ o=o)
end Go.Proofs.YtgdbhjmpkkbnnaaGreatDoor.Vc
end
section
/- Part NO: the law that many lines to desks share no memory. -/
namespace Go.Proofs.YtgdbhjmpkkbnnaaGreatDoor.Vc
open Go.Proofs
set_option maxRecDepth 100000
set_option maxHeartbeats 8000000
theorem sca_da (d:Desk) (l:List ByteArray):scaO (deO d ++ [anO l]):=⟨fun _ _=>rfl,fun _ _=>rfl,fun _ _ v hv=>sca_pl _ v hv,fun _ _=>rfl,trivial⟩
theorem sayX_R (d:Desk) (l:List ByteArray):okAn (sayX d l).1:=by
 by_cases h:deskOk d∧l.length≤40
 ·rw [sayX_ok h.1 h.2]
  exact .inl (sayD_ok h.1 l).1
 ·rw [sayX_no h]
  exact .inr rfl
theorem sayX_len (d:Desk) (l:List ByteArray):(sayX d l).2.length≤40:=by
 by_cases h:deskOk d∧l.length≤40
 ·rw [sayX_ok h.1 h.2,sayD_len h.1]
  exact h.2
 ·rw [sayX_no h]
  exact Nat.zero_le _
def C371:List AV→(AV→Prop)→Prop:=con (X:=Desk × List ByteArray) (fun x=>[enDe x.1,slS x.2]) (fun x=>deskI x.1∧x.2.length<9223372036854775808∧∀ r∈x.2,r.size<9223372036854775808) fun _ K=>K (.bool true)
theorem F371:FF 4 C371:=by
 refine fitX [(8,C138),(15,C154),(19,C156),(16,C315),(12,C141),(14,C150n),(21,C188)] (by simp only [List.mem_cons,List.not_mem_nil,or_false]; rintro _ (rfl|rfl|rfl|rfl|rfl|rfl|rfl) <;> first|exact F138|exact F154|exact F156|exact F315|exact F141|exact F150n|exact F188) [(10,C140o),(17,C155o),(18,C314n),(13,C149n),(20,C169)] (by simp only [List.mem_cons,List.not_mem_nil,or_false]; rintro _ (rfl|rfl|rfl|rfl|rfl) <;> first|exact F140o|exact F155o|exact F314n|exact F149n|exact F169) Tryz.f4 ⟨rfl,by decide +kernel,by decide +kernel⟩ (fun _ _ _ hk h=>hk _ h) ?_
 rintro ⟨⟨⟨p,bs,rs⟩,l⟩,L⟩ K ⟨hI,hL,hD⟩ h
 refine ⟨Nat.le_of_ble_eq_true rfl,?_⟩
 dsimp only [enDe,deC] at hI hL hD ⊢
 repeat' (first|refine vz ?_|(conv=>whnf); first|with_reducible first|refine Sp.mk ?_ ?_|refine br_d (fun _=>?_) fun _=>?_|refine vM (fun _=>?_) fun _=>?_)
 refine ⟨(⟨⟨p,bs,rs⟩,l⟩,1048576),?_,⟨hI,by dsimp only; omega,by dsimp only; omega⟩,?_⟩
 ·exact wq
 intro v v1 v2 v3
 dsimp only at v2 v3
 repeat' (first|refine vz ?_|(conv=>whnf); first|with_reducible first|refine Sp.mk ?_ ?_|refine br_d (fun _=>?_) fun _=>?_|refine vM (fun _=>?_) fun _=>?_)
 ·exact h
 rename_i hv
 have hok:=fitDe_ok (v3 (by omega))
 refine ⟨(L,v),?_,⟨⟨hL,hD⟩,by dsimp only; omega,by dsimp only; omega⟩,?_⟩
 ·exact wq
 intro r r1 r2 hr
 dsimp only at r2 hr
 by_cases hr0:r<0
 ·repeat' (first|refine vz ?_|(conv=>whnf); first|with_reducible first|refine Sp.mk ?_ ?_|refine br_d (fun _=>?_) fun _=>?_|refine vM (fun _=>?_) fun _=>?_)
  exact h
 have hfit:=hr (by omega)
 have hlen:L.length≤1048576:=by have:=hfit.1; omega
 have hsz:∀ s∈L,s.size≤1048576:=fun s hs=>by have:=hfit.2 s hs; omega
 have hR:=sayX_R ⟨⟨p,bs,rs⟩,l⟩ L
 have hA:=sayX_len ⟨⟨p,bs,rs⟩,l⟩ L
 obtain ⟨e,he⟩:∃ e,(sayX ⟨⟨p,bs,rs⟩,l⟩ L).1=e:=⟨_,rfl⟩
 obtain ⟨o,ho⟩:∃ o,(sayX ⟨⟨p,bs,rs⟩,l⟩ L).2=o:=⟨_,rfl⟩
 rw [ho] at hA
 rw [he] at hR
 have e1:=okAn_len hR
 have e2:=okAn_mds hR
 have e3:=okAn_mkM hR
 have d1:=okDe_len hok
 have d2:=okDe_mds hok
 have d3:=okDe_mkM hok
 obtain ⟨⟨ep,eb,er⟩,el⟩:=e
 repeat' (first|refine vz ?_|(conv=>whnf); first|with_reducible first|refine Sp.mk ?_ ?_|refine br_d (fun _=>?_) fun _=>?_|refine vM (fun _=>?_) fun _=>?_)
 refine ⟨_,_,[],[],rfl,?_,?_,.inr ⟨⟨⟨p,bs,rs⟩,l⟩,rfl,rfl,⟨hok⟩,?_⟩⟩
 ·exact wq
 ·exact wq
 dsimp only [enDe,deC,deN,deO,npO]
 repeat' (first|refine vz ?_|(conv=>whnf); first|with_reducible first|refine Sp.mk ?_ ?_|refine br_d (fun _=>?_) fun _=>?_|refine vM (fun _=>?_) fun _=>?_)
 refine ⟨_,_,[],[],rfl,?_,?_,.inr ⟨L,rfl,rfl,⟨hlen⟩,?_⟩⟩
 ·exact wq
 ·exact wq
 dsimp only
 repeat' (first|refine vz ?_|(conv=>whnf); first|with_reducible first|refine Sp.mk ?_ ?_|refine br_d (fun _=>?_) fun _=>?_|refine vM (fun _=>?_) fun _=>?_)
 refine ⟨⟨⟨⟨p,bs,rs⟩,l⟩,L⟩,?_,⟨hI,hsz,hlen⟩,?_⟩
 ·exact wq
 dsimp only
 rw [he,ho]
 dsimp only [enDe,deC]
 repeat' (first|refine vz ?_|(conv=>whnf); first|with_reducible first|refine Sp.mk ?_ ?_|refine br_d (fun _=>?_) fun _=>?_|refine vM (fun _=>?_) fun _=>?_)
 refine ⟨_,_,[],[],rfl,?_,?_,.inl ⟨⟨⟨p,bs,rs⟩,l⟩,rfl,rfl,⟨hok⟩,?_⟩⟩
 ·exact wq
 ·exact wq
 dsimp only [enDe,deC,deN,deO,npO]
 repeat' (first|refine vz ?_|(conv=>whnf); first|with_reducible first|refine Sp.mk ?_ ?_|refine br_d (fun _=>?_) fun _=>?_|refine vM (fun _=>?_) fun _=>?_)
 refine ⟨_,_,[],[],rfl,?_,?_,.inl ⟨L,rfl,rfl,⟨hlen⟩,?_⟩⟩
 ·exact wq
 ·exact wq
 dsimp only
 repeat' (first|refine vz ?_|(conv=>whnf); first|with_reducible first|refine Sp.mk ?_ ?_|refine br_d (fun _=>?_) fun _=>?_|refine vM (fun _=>?_) fun _=>?_)
 refine ⟨_,_,[],[2,3,4,6],rfl,?_,?_,⟨⟨⟨p,bs,rs⟩,l⟩,L⟩,rfl,rfl,⟨hI,hsz,hlen⟩,⟨rfl,sca_da _ _⟩,?_⟩
 ·repeat' ((conv=>whnf); first|with_reducible exact True.intro|exact vW|with_reducible refine And.intro ?_ ?_)
  all_goals exact Chk.mk ⟨rfl,by omega,fun i _=>by dsimp only; rw [Nat.zero_add]⟩
 ·exact wq
 dsimp only
 rw [he,ho]
 dsimp only [deN,deO,npO,anO,List.cons_append,List.nil_append]
 repeat' (first|refine vz ?_|(conv=>whnf); first|with_reducible first|refine Sp.mk ?_ ?_|refine br_d (fun _=>?_) fun _=>?_|refine vM (fun _=>?_) fun _=>?_)
 refine ⟨⟨⟨ep,eb,er⟩,el⟩,?_,⟨e1⟩,?_⟩
 ·repeat' ((conv=>whnf); first|with_reducible exact True.intro|exact vW|with_reducible refine And.intro ?_ ?_)
  all_goals exact Chk.mk ⟨rfl,fun i _=>by dsimp only; rw [Nat.zero_add]⟩
 repeat' (first|refine vz ?_|(conv=>whnf); first|with_reducible first|refine Sp.mk ?_ ?_|refine br_d (fun _=>?_) fun _=>?_|refine vM (fun _=>?_) fun _=>?_)
 refine ⟨o,?_,⟨by omega⟩,?_⟩
 ·repeat' ((conv=>whnf); first|with_reducible exact True.intro|exact vW|with_reducible refine And.intro ?_ ?_)
  all_goals exact Chk.mk ⟨rfl,fun i _=>by dsimp only; rw [Nat.zero_add]⟩
 repeat' (first|refine vz ?_|(conv=>whnf); first|with_reducible first|refine Sp.mk ?_ ?_|refine br_d (fun _=>?_) fun _=>?_|refine vM (fun _=>?_) fun _=>?_)
 refine Dr.mk ⟨(.rd 0 (.rd 1 (.ef 2 (.ef 3 (.rd 4 .dn) .no) .no))),by decide +kernel,?_⟩
 repeat' (first|refine vz ?_|(conv=>whnf); first|with_reducible first|refine Sp.mk ?_ ?_|refine br_d (fun _=>?_) fun _=>?_|refine vM (fun _=>?_) fun _=>?_)
 refine ⟨_,_,[],[],rfl,?_,?_,.inr ⟨⟨⟨p,bs,rs⟩,l⟩,rfl,rfl,⟨hok⟩,?_⟩⟩
 ·exact wq
 ·exact wq
 dsimp only [enDe,deC,deN,deO,npO]
 repeat' (first|refine vz ?_|(conv=>whnf); first|with_reducible first|refine Sp.mk ?_ ?_|refine br_d (fun _=>?_) fun _=>?_|refine vM (fun _=>?_) fun _=>?_)
 refine ⟨⟨⟨p,bs,rs⟩,l⟩,?_,⟨d1⟩,?_⟩
 ·repeat' ((conv=>whnf); first|with_reducible exact True.intro|exact vW|with_reducible refine And.intro ?_ ?_)
  all_goals exact Chk.mk ⟨rfl,fun i _=>by dsimp only; rw [Nat.zero_add]⟩
 repeat' (first|refine vz ?_|(conv=>whnf); first|with_reducible first|refine Sp.mk ?_ ?_|refine br_d (fun _=>?_) fun _=>?_|refine vM (fun _=>?_) fun _=>?_)
 refine ⟨_,_,[],[],rfl,?_,?_,.inr ⟨L,rfl,rfl,⟨hlen⟩,?_⟩⟩
 ·exact wq
 ·exact wq
 dsimp only
 repeat' (first|refine vz ?_|(conv=>whnf); first|with_reducible first|refine Sp.mk ?_ ?_|refine br_d (fun _=>?_) fun _=>?_|refine vM (fun _=>?_) fun _=>?_)
 refine ⟨L,?_,⟨hL⟩,?_⟩
 ·repeat' ((conv=>whnf); first|with_reducible exact True.intro|exact vW|with_reducible refine And.intro ?_ ?_)
  all_goals exact Chk.mk ⟨rfl,fun i _=>by dsimp only; rw [Nat.zero_add]⟩
 repeat' (first|refine vz ?_|(conv=>whnf); first|with_reducible first|refine Sp.mk ?_ ?_|refine br_d (fun _=>?_) fun _=>?_|refine vM (fun _=>?_) fun _=>?_)
 refine ⟨_,_,[2,3,4],[],rfl,?_,?_,⟨⟨⟨p,bs,rs⟩,l⟩,1⟩,rfl,rfl,⟨d2⟩,?_⟩
 ·exact wq
 ·exact wq
 dsimp only
 rw [deM_eq]
 dsimp only [deM]
 repeat' (first|refine vz ?_|(conv=>whnf); first|with_reducible first|refine Sp.mk ?_ ?_|refine br_d (fun _=>?_) fun _=>?_|refine vM (fun _=>?_) fun _=>?_)
 refine ⟨_,_,[6],[],rfl,?_,?_,⟨L,1+(mkM ⟨⟨p,bs,rs⟩,l⟩:Nat)⟩,rfl,rfl,⟨by dsimp only; omega,by dsimp only; omega,by dsimp only; omega⟩,?_⟩
 ·exact wq
 ·exact wq
 dsimp only
 repeat' (first|refine vz ?_|(conv=>whnf); first|with_reducible first|refine Sp.mk ?_ ?_|refine br_d (fun _=>?_) fun _=>?_|refine vM (fun _=>?_) fun _=>?_)
 refine ⟨⟨⟨ep,eb,er⟩,el⟩,?_,⟨e1⟩,?_⟩
 ·repeat' ((conv=>whnf); first|with_reducible exact True.intro|exact vW|with_reducible refine And.intro ?_ ?_)
  all_goals exact Chk.mk ⟨rfl,fun i _=>by dsimp only; rw [Nat.zero_add]⟩
 repeat' (first|refine vz ?_|(conv=>whnf); first|with_reducible first|refine Sp.mk ?_ ?_|refine br_d (fun _=>?_) fun _=>?_|refine vM (fun _=>?_) fun _=>?_)
 refine ⟨o,?_,⟨by omega⟩,?_⟩
 ·repeat' ((conv=>whnf); first|with_reducible exact True.intro|exact vW|with_reducible refine And.intro ?_ ?_)
  all_goals exact Chk.mk ⟨rfl,fun i _=>by dsimp only; rw [Nat.zero_add]⟩
 repeat' (first|refine vz ?_|(conv=>whnf); first|with_reducible first|refine Sp.mk ?_ ?_|refine br_d (fun _=>?_) fun _=>?_|refine vM (fun _=>?_) fun _=>?_)
 refine ⟨_,_,[7,8,9],[],rfl,?_,?_,⟨⟨⟨ep,eb,er⟩,el⟩,1⟩,rfl,rfl,⟨e2⟩,?_⟩
 ·exact wq
 ·exact wq
 dsimp only
 rw [deM_eq]
 dsimp only [deM]
 repeat' (first|refine vz ?_|(conv=>whnf); first|with_reducible first|refine Sp.mk ?_ ?_|refine br_d (fun _=>?_) fun _=>?_|refine vM (fun _=>?_) fun _=>?_)
 refine ⟨_,_,[10],[],rfl,?_,?_,⟨o,1+(mkM ⟨⟨ep,eb,er⟩,el⟩:Nat)⟩,rfl,rfl,⟨by dsimp only; omega,by dsimp only; omega,by dsimp only; omega⟩,?_⟩
 ·exact wq
 ·exact wq
 dsimp only
 repeat' (first|refine vz ?_|(conv=>whnf); first|with_reducible first|refine Sp.mk ?_ ?_|refine br_d (fun _=>?_) fun _=>?_|refine vM (fun _=>?_) fun _=>?_)
 refine ⟨⟨⟨⟨ep,eb,er⟩,el⟩,1⟩,?_,⟨e2⟩,?_⟩
 ·repeat' ((conv=>whnf); first|with_reducible exact True.intro|exact vW|with_reducible refine And.intro ?_ ?_)
  all_goals first|exact Chk.mk ⟨(mksI_len _ _).symm,fun i _=>by dsimp only; rw [Nat.zero_add]; rfl⟩|exact Chk.mk ⟨(mksS_len _ _).symm,fun i _=>by dsimp only; rw [Nat.zero_add]; rfl⟩|exact Chk.mk ⟨(mkPs_len _ _).symm,fun i _=>by dsimp only; rw [Nat.zero_add]; rfl⟩
 dsimp only
 repeat' (first|refine vz ?_|(conv=>whnf); first|with_reducible first|refine Sp.mk ?_ ?_|refine br_d (fun _=>?_) fun _=>?_|refine vM (fun _=>?_) fun _=>?_)
 refine ⟨⟨o.length,1+(mkM ⟨⟨ep,eb,er⟩,el⟩:Nat)⟩,?_,⟨by dsimp only; omega,by dsimp only; omega,by dsimp only; omega⟩,?_⟩
 ·repeat' ((conv=>whnf); first|with_reducible exact True.intro|exact vW|with_reducible refine And.intro ?_ ?_)
  all_goals exact Chk.mk ⟨(mksS_len _ _).symm,fun i _=>by dsimp only; rw [Nat.zero_add]⟩
 dsimp only
 repeat' (first|refine vz ?_|(conv=>whnf); first|with_reducible first|refine Sp.mk ?_ ?_|refine br_d (fun _=>?_) fun _=>?_|refine vM (fun _=>?_) fun _=>?_)
 refine ⟨_,_,[],[],rfl,?_,?_,.inr ⟨⟨⟨p,bs,rs⟩,l⟩,rfl,rfl,⟨hok⟩,?_⟩⟩
 ·exact wq
 ·exact wq
 dsimp only [enDe,deC,deN,deO,npO]
 repeat' (first|refine vz ?_|(conv=>whnf); first|with_reducible first|refine Sp.mk ?_ ?_|refine br_d (fun _=>?_) fun _=>?_|refine vM (fun _=>?_) fun _=>?_)
 refine ⟨_,_,[],[],rfl,?_,?_,.inr ⟨L,rfl,rfl,⟨hlen⟩,?_⟩⟩
 ·exact wq
 ·exact wq
 dsimp only
 repeat' (first|refine vz ?_|(conv=>whnf); first|with_reducible first|refine Sp.mk ?_ ?_|refine br_d (fun _=>?_) fun _=>?_|refine vM (fun _=>?_) fun _=>?_)
 refine ⟨_,_,[],[],rfl,?_,?_,⟨⟨⟨p,bs,rs⟩,l⟩,L⟩,rfl,rfl,⟨hI,hsz,hlen⟩,?_⟩
 ·exact wq
 ·exact wq
 dsimp only
 rw [he,ho]
 dsimp only [deN,deO,npO,anO,List.cons_append,List.nil_append]
 repeat' (first|refine vz ?_|(conv=>whnf); first|with_reducible first|refine Sp.mk ?_ ?_|refine br_d (fun _=>?_) fun _=>?_|refine vM (fun _=>?_) fun _=>?_)
 refine ⟨⟨⟨ep,eb,er⟩,el⟩,?_,⟨e1⟩,?_⟩
 ·repeat' ((conv=>whnf); first|with_reducible exact True.intro|exact vW|with_reducible refine And.intro ?_ ?_)
  all_goals exact Chk.mk ⟨rfl,fun i _=>by dsimp only; rw [Nat.zero_add]⟩
 repeat' (first|refine vz ?_|(conv=>whnf); first|with_reducible first|refine Sp.mk ?_ ?_|refine br_d (fun _=>?_) fun _=>?_|refine vM (fun _=>?_) fun _=>?_)
 refine ⟨o,?_,⟨by omega⟩,?_⟩
 ·repeat' ((conv=>whnf); first|with_reducible exact True.intro|exact vW|with_reducible refine And.intro ?_ ?_)
  all_goals exact Chk.mk ⟨rfl,fun i _=>by dsimp only; rw [Nat.zero_add]⟩
 repeat' (first|refine vz ?_|(conv=>whnf); first|with_reducible first|refine Sp.mk ?_ ?_|refine br_d (fun _=>?_) fun _=>?_|refine vM (fun _=>?_) fun _=>?_)
 refine ⟨⟨⟨⟨ep,eb,er⟩,el⟩,1⟩,?_,⟨e2⟩,?_⟩
 ·repeat' ((conv=>whnf); first|with_reducible exact True.intro|exact vW|with_reducible refine And.intro ?_ ?_)
  all_goals first|exact Chk.mk ⟨(mksI_len _ _).symm,fun i _=>by dsimp only; rw [Nat.zero_add]; rfl⟩|exact Chk.mk ⟨(mksS_len _ _).symm,fun i _=>by dsimp only; rw [Nat.zero_add]; rfl⟩|exact Chk.mk ⟨(mkPs_len _ _).symm,fun i _=>by dsimp only; rw [Nat.zero_add]; rfl⟩
 dsimp only
 repeat' (first|refine vz ?_|(conv=>whnf); first|with_reducible first|refine Sp.mk ?_ ?_|refine br_d (fun _=>?_) fun _=>?_|refine vM (fun _=>?_) fun _=>?_)
 refine ⟨⟨o.length,1+(mkM ⟨⟨ep,eb,er⟩,el⟩:Nat)⟩,?_,⟨by dsimp only; omega,by dsimp only; omega,by dsimp only; omega⟩,?_⟩
 ·repeat' ((conv=>whnf); first|with_reducible exact True.intro|exact vW|with_reducible refine And.intro ?_ ?_)
  all_goals exact Chk.mk ⟨(mksS_len _ _).symm,fun i _=>by dsimp only; rw [Nat.zero_add]⟩
 dsimp only
 repeat' (first|refine vz ?_|(conv=>whnf); first|with_reducible first|refine Sp.mk ?_ ?_|refine br_d (fun _=>?_) fun _=>?_|refine vM (fun _=>?_) fun _=>?_)
 exact h
end Go.Proofs.YtgdbhjmpkkbnnaaGreatDoor.Vc
end
section
/- Part BASE: all that the rows of this seat lean on. -/
namespace Go.Proofs.YtgdbhjmpkkbnnaaGreatDoor.Vc
end Go.Proofs.YtgdbhjmpkkbnnaaGreatDoor.Vc
end
