/- Part UE: places that are read, by the reference. -/
import Derived.Test.YtgdbhjmpkkbnnaaGreatDoorVc6
section
namespace Go.Proofs.YtgdbhjmpkkbnnaaGreatDoor.Vc
open Go.Proofs
set_option maxRecDepth 10000
set_option maxHeartbeats 4000000
def isPt (s:ByteArray) (x:Place):Prop:=placeOk x∧plT x=s
def rpPost (s:ByteArray) (K:AV→Prop):Prop:=(∀ x,isPt s x→K (.tup [enPl x,.bool true]))∧((¬ ∃ x,isPt s x)→K (.tup [enPl default,.bool false]))
theorem rpPost.mono {s:ByteArray} {K K2:AV→Prop} (hk:∀ r,K r→K2 r) (h:rpPost s K):rpPost s K2:=⟨fun x q=>hk _ (h.1 x q),fun q=>hk _ (h.2 q)⟩
theorem isPt_cut {s:ByteArray} {x:Place} (h:isPt s x):cutB s 32=num x.p :: listT x.bs :: x.rules:=by rw [← h.2]; exact cut_plT h.1
theorem isPt_len {s:ByteArray} {x:Place} (h:isPt s x):3≤(cutB s 32).length:=by
 rw [isPt_cut h]
 have:=h.1.2.1.1
 simp only [List.length_cons]
 omega
theorem isPt_p {s:ByteArray} {x:Place} (h:isPt s x):∃ n:Nat,n<1000000∧(cutB s 32).getD 0 ⟨#[]⟩=num n∧x.p=n:=by
 have:=placeOk_small h.1
 rw [isPt_cut h]
 exact ⟨x.p.toNat,by omega,by show num x.p=_; congr 1; omega,by omega⟩
theorem isPt_bs {s:ByteArray} {x:Place} (h:isPt s x):cutB ((cutB s 32).getD 1 ⟨#[]⟩) 44=x.bs.map num:=by
 rw [isPt_cut h]
 exact cut_listT (placeOk_small h.1).1 (placeOk_bs h.1)
theorem isPt_b {s:ByteArray} {x:Place} (h:isPt s x) {i:Nat} (hi:i<x.bs.length):∃ n:Nat,n<1000000∧(cutB ((cutB s 32).getD 1 ⟨#[]⟩) 44).getD i ⟨#[]⟩=num n∧x.bs.getD i 0=n:=by
 have hs:=(placeOk_small h.1).1.2 _ (getD_mem' (d:=0) hi)
 rw [isPt_bs h]
 refine ⟨(x.bs.getD i 0).toNat,by omega,?_,by omega⟩
 rw [List.getD_eq_getElem?_getD,List.getElem?_map,List.getElem?_eq_getElem hi,List.getD_eq_getElem?_getD,List.getElem?_eq_getElem hi] at *
 show num _=num _
 congr 1
 have:(x.bs[i]?.getD 0:Int)=x.bs[i]:=by rw [List.getElem?_eq_getElem hi]; rfl
 simp only [Option.getD_some] at hs ⊢
 omega
theorem isPt_rs {s:ByteArray} {x:Place} (h:isPt s x):(cutB s 32).drop 2=x.rules:=by rw [isPt_cut h]; rfl
theorem isPt_one {s:ByteArray} {x y:Place} (h:isPt s x) (g:isPt s y):x=y:=plT_inj h.1 g.1 (h.2.trans g.2.symm)
theorem isPt_ne {s:ByteArray} {x:Place} (h:isPt s x):s≠⟨#[]⟩:=fun e=>by
 have:=isPt_len h
 rw [e] at this
 exact absurd this (by decide)
def C219:List AV→(AV→Prop)→Prop:=con (X:=ByteArray) (fun s=>[.str s]) (fun s=>s.size<4294967281) rpPost
theorem F219:FF 65 C219:=by
 refine fitXE [(42,C215),(43,C216),(41,C142)] (by simp only [List.mem_cons,List.not_mem_nil,or_false]; rintro _ (rfl|rfl|rfl) <;> first|exact F215|exact F216|exact F142) [] (by simp) Tryz.f65 ⟨rfl,by decide +kernel,by decide +kernel⟩ (fun _ _ _ hk h=>h.mono hk) ?_
 rintro s K hs ⟨h,hno⟩
 refine ⟨Nat.le_of_ble_eq_true rfl,?_⟩
 repeat' (first|refine vz ?_|(conv=>whnf); first|with_reducible first|refine Sp.mk ?_ ?_|refine br_d (fun _=>?_) fun _=>?_|refine vM (fun _=>?_) fun _=>?_)
 refine ⟨(s,32),?_,⟨hs⟩,?_⟩
 ·exact wq
 obtain ⟨L,hL⟩:∃ L,cutB s 32=L:=⟨_,rfl⟩
 have hl2:=(cutB_len s 32).2
 have hlm:∀ x∈L,x.size≤s.size:=fun x hx=>cutB_mem (c:=32) (hL ▸ hx)
 have hx3:∀ x,isPt s x→3≤L.length:=fun x q=>hL ▸ isPt_len q
 dsimp only
 rw [hL] at hl2 ⊢
 repeat' (first|refine vz ?_|(conv=>whnf); first|with_reducible first|refine Sp.mk ?_ ?_|refine br_d (fun _=>?_) fun _=>?_|refine vM (fun _=>?_) fun _=>?_)
 ·rename_i h3
  refine ⟨_,?_,hno fun ⟨x,q⟩=>by have:=hx3 x q; omega⟩
  repeat' ((conv=>whnf); first|with_reducible exact True.intro|exact vW|with_reducible refine And.intro ?_ ?_)
 rename_i h3
 obtain ⟨Q,hQ⟩:∃ Q,L.drop 2=Q:=⟨_,rfl⟩
 have hQl:Q.length=L.length-2:=by rw [← hQ,List.length_drop]
 have hQe:Q.length=(L.length:Int).toNat-Int.toNat 2∧∀ i,i<Q.length→encS (Q.getD i ⟨#[]⟩)=encS (L.getD (Int.toNat 2+i) ⟨#[]⟩):=⟨hQl,fun i _=>by
  rw [← hQ,List.getD_eq_getElem?_getD,List.getElem?_drop,← List.getD_eq_getElem?_getD]
  rfl⟩
 apply later
 ·intro key
  refine Dr.mk ⟨(.rd 0 (.rd 1 (.rd 2 (.rd 6 (.rd 7 (.ef 3 (.rd 4 (.ef 5 (.ef 8 (.rd 9 (.ef 10 (.ef 11 .dn .no) .no)) (.ef 10 (.ef 8 (.rd 9 (.ef 11 .dn .no)) .no) .no)) (.ef 10 (.ef 5 (.ef 8 (.rd 9 (.ef 11 .dn .no)) .no) .no) .no))) (.ef 5 (.ef 3 (.rd 4 (.ef 8 (.rd 9 (.ef 10 (.ef 11 .dn .no) .no)) (.ef 10 (.ef 8 (.rd 9 (.ef 11 .dn .no)) .no) .no))) (.ef 10 (.ef 3 (.rd 4 (.ef 8 (.rd 9 (.ef 11 .dn .no)) .no)) .no) .no)) (.ef 10 (.ef 3 (.rd 4 (.ef 5 (.ef 8 (.rd 9 (.ef 11 .dn .no)) .no) .no)) (.ef 5 (.ef 3 (.rd 4 (.ef 8 (.rd 9 (.ef 11 .dn .no)) .no)) .no) .no)) .no)))))))),by decide +kernel,?_⟩
  repeat' (first|refine vz ?_|(conv=>whnf); first|with_reducible first|refine Sp.mk ?_ ?_|refine br_d (fun _=>?_) fun _=>?_|refine vM (fun _=>?_) fun _=>?_)
  all_goals
   refine ⟨L.getD 0 ⟨#[]⟩,?_,⟨by have:=hlm _ (getD_mem' (l:=L) (i:=0) (d:=⟨#[]⟩) (by omega)); omega⟩,?_⟩
   ·exact wq
   intro v hv hn
   have hp:∀ x,isPt s x→v=x.p:=fun x q=>by
    obtain ⟨n,n1,n2,n3⟩:=isPt_p q
    rw [hL] at n2
    rw [hn n n1 n2,n3]
   repeat' ((conv=>whnf); first|with_reducible refine wk_at 5 ?_|with_reducible refine wk_at1 5 ?_|with_reducible refine wk_at2 5 ?_|refine vA ?_|with_reducible first|refine v8 ?_|refine Ch.l ?_|refine Sp.mk ?_ ?_|refine vS ?_|refine vR ?_|refine vB ?_|refine br_nt ?_|refine br_tt ?_|refine br_ff ?_|refine vP ?_|refine vQ ?_|refine vT ?_|refine vF ?_|refine br_and ?_|refine br_or ?_|refine br_d (fun _=>?_) fun _=>?_|refine vM (fun _=>?_) fun _=>?_)
  all_goals
   refine ⟨Wk.go [(0,.str s),(2,.ptr 0 0),(4,slS L),(5,.ptr 1 0)] [.box [.int .i64 0,.nils,.nils],.box [.int .i64 v,.nils,.row 2 1 0 Q.length],.row 1 Q.length fun i=>encS (Q.getD i ⟨#[]⟩)] ?_ ?_⟩
   ·first|(refine ⟨⟨[some 0,some 1,some 2],[],rfl,rfl,?_,?_⟩⟩ <;> (repeat' ((conv=>whnf); first|with_reducible exact True.intro|exact vW|with_reducible refine And.intro ?_ ?_|exact Chk.mk hQe)) <;> fail)|(refine ⟨⟨[some 0,some 2,some 1],[],rfl,rfl,?_,?_⟩⟩ <;> (repeat' ((conv=>whnf); first|with_reducible exact True.intro|exact vW|with_reducible refine And.intro ?_ ?_|exact Chk.mk hQe)) <;> fail)
   clear hn
   revert v
   exact key.t
 intro v hv hp
 obtain ⟨M,hM⟩:∃ M,cutB (L.getD 1 ⟨#[]⟩) 44=M:=⟨_,rfl⟩
 have h1s:=hlm _ (getD_mem' (l:=L) (i:=1) (d:=⟨#[]⟩) (by omega))
 have hMl:=(cutB_len (L.getD 1 ⟨#[]⟩) 44).2
 have hMm:∀ x∈M,x.size≤s.size:=fun x hx=>Nat.le_trans (cutB_mem (c:=44) (hM ▸ hx)) h1s
 have hMx:∀ x,isPt s x→M=x.bs.map num:=fun x q=>by rw [← hM,← hL]; exact isPt_bs q
 have hMb:∀ x,isPt s x→∀ i,i<x.bs.length→∃ n:Nat,n<1000000∧M.getD i ⟨#[]⟩=num n∧x.bs.getD i 0=n:=fun x q i hi=>by rw [← hM,← hL]; exact isPt_b q hi
 repeat' (first|refine vz ?_|(conv=>whnf); first|with_reducible first|refine Sp.mk ?_ ?_|refine br_d (fun _=>?_) fun _=>?_|refine vM (fun _=>?_) fun _=>?_)
 refine ⟨(L.getD 1 ⟨#[]⟩,44),?_,⟨by dsimp only; omega⟩,?_⟩
 ·exact wq
 dsimp only
 rw [hM] at hMl ⊢
 repeat' (first|refine vz ?_|(conv=>whnf); first|with_reducible first|refine Sp.mk ?_ ?_|refine br_d (fun _=>?_) fun _=>?_|refine vM (fun _=>?_) fun _=>?_)
 refine Lp.mk ⟨List Int,fun B=>[(0,.str s),(2,.ptr 0 0),(5,.ptr 1 0),(6,slS M),(7,.int .i64 B.length)],fun B=>[.box [.int .i64 0,.nils,.nils],.box [.int .i64 v,.row 3 1 0 B.length,.row 2 1 0 Q.length],.row 1 Q.length fun i=>encS (Q.getD i ⟨#[]⟩),.row 1 B.length fun i=>encI (B.getD i 0)],
  fun B=>B.length≤M.length∧(∀ n∈B,i64r n)∧∀ x,isPt s x→B=x.bs.take B.length,fun B=>M.length-B.length,⟨[],⟨Nat.zero_le _,(fun _ q=>by cases q),(fun _ _=>rfl)⟩,⟨⟨[some 0,some 1,some 2,none],[],rfl,rfl,?_,?_⟩⟩⟩,?_⟩
 ·exact wq
 ·exact wq
 rintro B ⟨i1,i2,i3⟩
 dsimp only
 by_cases hk:B.length<M.length
 ·repeat' (first|refine vz ?_|(conv=>whnf); first|with_reducible first|refine Sp.mk ?_ ?_|refine br_d (fun _=>?_) fun _=>?_|refine vM (fun _=>?_) fun _=>?_)
  refine Dr.mk ⟨(.rd 0 (.rd 1 (.rd 2 (.rd 3 (.rd 4 (.rd 5 (.rd 6 (.ef 7 (.ef 8 (.ef 9 (.rd 10 (.rd 11 (.ef 12 .dn .no))) .no) .no) .no)))))))),by decide +kernel,?_⟩
  repeat' (first|refine vz ?_|(conv=>whnf); first|with_reducible first|refine Sp.mk ?_ ?_|refine br_d (fun _=>?_) fun _=>?_|refine vM (fun _=>?_) fun _=>?_)
  refine ⟨M.getD B.length ⟨#[]⟩,?_,⟨by have:=hMm _ (getD_mem' (d:=⟨#[]⟩) hk); omega⟩,?_⟩
  ·exact wq
  intro w hw hn
  have hnext:∀ x,isPt s x→B ++ [w]=x.bs.take (B.length+1):=fun x q=>by
   have e2:=hMx x q
   have e3:x.bs.length=M.length:=by rw [e2,List.length_map]
   obtain ⟨n,n1,n2,n3⟩:=hMb x q B.length (by omega)
   rw [take_succ' 0 (by omega),← i3 x q,hn n n1 n2,n3]
  have hi2:∀ n∈B ++ [w],i64r n:=fun n hm=>(List.mem_append.1 hm).elim (i2 n) fun hm=>by rw [List.mem_singleton.1 hm]; exact hw
  have hBl:(B ++ [w]).length=B.length+1:=by rw [List.length_append]; rfl
  repeat' (first|refine vz ?_|(conv=>whnf); first|with_reducible first|refine Sp.mk ?_ ?_|refine br_d (fun _=>?_) fun _=>?_|refine vM (fun _=>?_) fun _=>?_)
  refine ⟨B ++ [w],⟨by omega,hi2,fun x q=>by rw [hBl]; exact hnext x q⟩,by omega,?_⟩
  first|(refine ⟨⟨[some 0,some 1,some 2,some 5],[],rfl,rfl,?_,?_⟩⟩ <;> (repeat' ((conv=>whnf); first|with_reducible exact True.intro|exact vW|with_reducible refine And.intro ?_ ?_|exact Chk.mk ⟨rfl,hBl⟩|exact Chk.mk (ext_push rfl))) <;> fail)|(refine ⟨⟨[some 0,some 1,some 2,some 4],[],rfl,rfl,?_,?_⟩⟩ <;> (repeat' ((conv=>whnf); first|with_reducible exact True.intro|exact vW|with_reducible refine And.intro ?_ ?_|exact Chk.mk ⟨rfl,hBl⟩|exact Chk.mk (ext_push rfl))) <;> fail)
 ·have hBx:∀ x,isPt s x→x=⟨v,B,Q⟩:=fun x q=>by
   have e1:=i3 x q
   have e2:=hMx x q
   have e3:x.bs.length=M.length:=by rw [e2,List.length_map]
   rw [List.take_of_length_le (by omega)] at e1
   have e4:=isPt_rs q
   rw [hL,hQ] at e4
   obtain ⟨xp,xb,xr⟩:=x
   have e5:=hp _ q
   dsimp only at e1 e4 e5
   rw [e1,e4,e5]
  have hyI:placeI ⟨v,B,Q⟩:=⟨⟨⟨hv,i2⟩,by show B.length<_; omega⟩,by show Q.length<_; omega,fun r hr=>by have:=hlm r (by rw [← hQ] at hr; exact List.mem_of_mem_drop hr); omega⟩
  have hno':(¬ ptext ⟨v,B,Q⟩=s∨s=⟨#[]⟩)→K (.tup [enPl default,.bool false]):=fun q=>hno fun ⟨x,g⟩=>by
   rcases q with q|q
   ·rw [← hBx x g] at q
    exact q ((if_pos g.1).trans g.2)
   ·exact isPt_ne g q
  have hyes:ptext ⟨v,B,Q⟩=s→s≠⟨#[]⟩→K (.tup [enPl ⟨v,B,Q⟩,.bool true]):=fun e ne=>h _ (by
   by_cases hO:placeOk ⟨v,B,Q⟩
   ·exact ⟨hO,(if_pos hO).symm.trans e⟩
   ·exact absurd ((if_neg hO).symm.trans e).symm ne)
  repeat' (first|refine vz ?_|(conv=>whnf); first|with_reducible first|refine Sp.mk ?_ ?_|refine br_d (fun _=>?_) fun _=>?_|refine vM (fun _=>?_) fun _=>?_)
  ·rename_i hs0
   refine ⟨_,?_,hno' (.inr hs0)⟩
   repeat' ((conv=>whnf); first|with_reducible exact True.intro|exact vW|with_reducible refine And.intro ?_ ?_)
  ·rename_i hs0
   refine ⟨⟨v,B,Q⟩,?_,⟨hyI⟩,?_⟩
   ·repeat' ((conv=>whnf); first|with_reducible exact True.intro|exact vW|with_reducible refine And.intro ?_ ?_)
    all_goals exact Chk.mk ⟨rfl,fun i _=>by dsimp only; rw [Nat.zero_add]⟩
   repeat' (first|refine vz ?_|(conv=>whnf); first|with_reducible first|refine Sp.mk ?_ ?_|refine br_d (fun _=>?_) fun _=>?_|refine vM (fun _=>?_) fun _=>?_)
   ·rename_i he
    refine ⟨_,?_,hyes he hs0⟩
    repeat' ((conv=>whnf); first|with_reducible exact True.intro|exact vW|with_reducible refine And.intro ?_ ?_)
    all_goals exact Chk.mk ⟨rfl,fun i _=>by dsimp only; rw [Nat.zero_add]⟩
   ·rename_i he
    refine ⟨_,?_,hno' (.inl he)⟩
    repeat' ((conv=>whnf); first|with_reducible exact True.intro|exact vW|with_reducible refine And.intro ?_ ?_)
end Go.Proofs.YtgdbhjmpkkbnnaaGreatDoor.Vc
end
section
/- Part UF: places that are read, by the implementation. -/
namespace Go.Proofs.YtgdbhjmpkkbnnaaGreatDoor.Vc
open Go.Proofs
set_option maxRecDepth 10000
set_option maxHeartbeats 4000000
def C214:List AV→(AV→Prop)→Prop:=con (X:=ByteArray) (fun s=>[.str s]) (fun s=>s.size<4294967281) rpPost
theorem placeOk_short' {x:Place} (h:placeOk x):x.rules.length≤100000000∧x.bs.length≤100000000:=⟨Nat.le_trans h.2.1.2 (by omega),Nat.le_trans h.1.2.1 (by omega)⟩
theorem isPt_num {s:ByteArray} {x:Place} (h:isPt s x):isNum ((cutB s 32).getD 0 ⟨#[]⟩)=true:=by
 obtain ⟨n,n1,n2,_⟩:=isPt_p h
 rw [n2]
 exact isNum_num n1
theorem F214:FF 105 C214:=by
 refine fitXE [(123,C211),(125,C213),(89,C152),(127,C166),(99,C157)] (by simp only [List.mem_cons,List.not_mem_nil,or_false]; rintro _ (rfl|rfl|rfl|rfl|rfl) <;> first|exact F211|exact F213|exact F152|exact F166|exact F157) [] (by simp) Tryz.f105 ⟨rfl,by decide +kernel,by decide +kernel⟩ (fun _ _ _ hk h=>h.mono hk) ?_
 rintro s K hs ⟨h,hno⟩
 refine ⟨Nat.le_of_ble_eq_true rfl,?_⟩
 repeat' (first|refine vz ?_|(conv=>whnf); first|with_reducible first|refine Sp.mk ?_ ?_|refine br_d (fun _=>?_) fun _=>?_|refine vM (fun _=>?_) fun _=>?_)
 refine ⟨(s,32),?_,⟨hs⟩,?_⟩
 ·exact wq
 obtain ⟨L,hL⟩:∃ L,cutB s 32=L:=⟨_,rfl⟩
 have hl2:=(cutB_len s 32).2
 have hlm:∀ x∈L,x.size≤s.size:=fun x hx=>cutB_mem (c:=32) (hL ▸ hx)
 have hx3:∀ x,isPt s x→3≤L.length:=fun x q=>hL ▸ isPt_len q
 dsimp only
 rw [hL] at hl2 ⊢
 repeat' (first|refine vz ?_|(conv=>whnf); first|with_reducible first|refine Sp.mk ?_ ?_|refine br_d (fun _=>?_) fun _=>?_|refine vM (fun _=>?_) fun _=>?_)
 ·rename_i h3
  refine ⟨_,?_,hno fun ⟨x,q⟩=>by have:=hx3 x q; omega⟩
  repeat' ((conv=>whnf); first|with_reducible exact True.intro|exact vW|with_reducible refine And.intro ?_ ?_)
 rename_i h3
 obtain ⟨Q,hQ⟩:∃ Q,L.drop 2=Q:=⟨_,rfl⟩
 have hQl:Q.length=L.length-2:=by rw [← hQ,List.length_drop]
 refine ⟨L.getD 0 ⟨#[]⟩,?_,⟨by have:=hlm _ (getD_mem' (l:=L) (i:=0) (d:=⟨#[]⟩) (by omega)); omega⟩,?_⟩
 ·exact wq
 intro v hv hn
 have hp:∀ x,isPt s x→v=x.p:=fun x q=>by
  obtain ⟨n,n1,n2,n3⟩:=isPt_p q
  rw [hL] at n2
  rw [hn n n1 n2,n3]
 have hpn:∀ x,isPt s x→isNum (L.getD 0 ⟨#[]⟩)=true:=fun x q=>hL ▸ isPt_num q
 generalize isNum (L.getD 0 ⟨#[]⟩)=okp at hpn ⊢
 have hQe:Q.length=(L.length:Int).toNat-Int.toNat 2∧∀ i,i<Q.length→encS (Q.getD i ⟨#[]⟩)=encS (L.getD (Int.toNat 2+i) ⟨#[]⟩):=⟨hQl,fun i _=>by
  rw [← hQ,List.getD_eq_getElem?_getD,List.getElem?_drop,← List.getD_eq_getElem?_getD]
  rfl⟩
 obtain ⟨M,hM⟩:∃ M,cutB (L.getD 1 ⟨#[]⟩) 44=M:=⟨_,rfl⟩
 have h1s:=hlm _ (getD_mem' (l:=L) (i:=1) (d:=⟨#[]⟩) (by omega))
 have hMl:=(cutB_len (L.getD 1 ⟨#[]⟩) 44).2
 have hMm:∀ x∈M,x.size≤s.size:=fun x hx=>Nat.le_trans (cutB_mem (c:=44) (hM ▸ hx)) h1s
 have hMx:∀ x,isPt s x→M=x.bs.map num:=fun x q=>by rw [← hM,← hL]; exact isPt_bs q
 have hMb:∀ x,isPt s x→∀ i,i<x.bs.length→∃ n:Nat,n<1000000∧M.getD i ⟨#[]⟩=num n∧x.bs.getD i 0=n:=fun x q i hi=>by rw [← hM,← hL]; exact isPt_b q hi
 repeat' (first|refine vz ?_|(conv=>whnf); first|with_reducible first|refine Sp.mk ?_ ?_|refine br_d (fun _=>?_) fun _=>?_|refine vM (fun _=>?_) fun _=>?_)
 refine ⟨(L.getD 1 ⟨#[]⟩,44),?_,⟨by dsimp only; omega⟩,?_⟩
 ·exact wq
 dsimp only
 rw [hM] at hMl ⊢
 repeat' (first|refine vz ?_|(conv=>whnf); first|with_reducible first|refine Sp.mk ?_ ?_|refine br_d (fun _=>?_) fun _=>?_|refine vM (fun _=>?_) fun _=>?_)
 refine Lp.mk ⟨List Int,fun B=>[(0,.str s),(2,.ptr 0 0),(6,.bool okp),(7,.ptr 1 0),(33,slS M),(34,.int .i64 M.length),(35,.int .i64 B.length)],fun B=>[.box [.int .i64 0,.nils,.nils],.box [.int .i64 v,.row 2 1 0 B.length,slS Q],.row 1 B.length fun i=>encI (B.getD i 0)],
  fun B=>B.length≤M.length∧(∀ n∈B,i64r n)∧∀ x,isPt s x→B=x.bs.take B.length,fun B=>M.length-B.length,⟨[],⟨Nat.zero_le _,(fun _ q=>by cases q),(fun _ _=>rfl)⟩,⟨⟨[some 0,some 1,none],[],rfl,rfl,?_,?_⟩⟩⟩,?_⟩
 ·exact wq
 ·repeat' ((conv=>whnf); first|with_reducible exact True.intro|exact vW|with_reducible refine And.intro ?_ ?_)
  all_goals exact Chk.mk hQe
 rintro B ⟨i1,i2,i3⟩
 dsimp only
 by_cases hk:B.length<M.length
 ·repeat' (first|refine vz ?_|(conv=>whnf); first|with_reducible first|refine Sp.mk ?_ ?_|refine br_d (fun _=>?_) fun _=>?_|refine vM (fun _=>?_) fun _=>?_)
  refine ⟨M.getD B.length ⟨#[]⟩,?_,⟨by have:=hMm _ (getD_mem' (d:=⟨#[]⟩) hk); omega⟩,?_⟩
  ·exact wq
  intro w hw hn
  have hnext:∀ x,isPt s x→isNum (M.getD B.length ⟨#[]⟩)=true∧B ++ [w]=x.bs.take (B.length+1):=fun x q=>by
   have e2:=hMx x q
   have e3:x.bs.length=M.length:=by rw [e2,List.length_map]
   obtain ⟨n,n1,n2,n3⟩:=hMb x q B.length (by omega)
   refine ⟨by rw [n2]; exact isNum_num n1,?_⟩
   rw [take_succ' 0 (by omega),← i3 x q,hn n n1 n2,n3]
  have hi2:∀ n∈B ++ [w],i64r n:=fun n hm=>(List.mem_append.1 hm).elim (i2 n) fun hm=>by rw [List.mem_singleton.1 hm]; exact hw
  have hBl:(B ++ [w]).length=B.length+1:=by rw [List.length_append]; rfl
  generalize isNum (M.getD B.length ⟨#[]⟩)=okb at hnext ⊢
  cases okb
  ·repeat' (first|refine vz ?_|(conv=>whnf); first|with_reducible first|refine Sp.mk ?_ ?_|refine br_d (fun _=>?_) fun _=>?_|refine vM (fun _=>?_) fun _=>?_)
   refine ⟨_,?_,hno fun ⟨x,q⟩=>by cases (hnext x q).1⟩
   repeat' ((conv=>whnf); first|with_reducible exact True.intro|exact vW|with_reducible refine And.intro ?_ ?_)
  ·repeat' (first|refine vz ?_|(conv=>whnf); first|with_reducible first|refine Sp.mk ?_ ?_|refine br_d (fun _=>?_) fun _=>?_|refine vM (fun _=>?_) fun _=>?_)
   refine ⟨B ++ [w],⟨by omega,hi2,fun x q=>by rw [hBl]; exact (hnext x q).2⟩,by omega,?_⟩
   first|(refine ⟨⟨[some 0,some 1,some 4],[],rfl,rfl,?_,?_⟩⟩ <;> (repeat' ((conv=>whnf); first|with_reducible exact True.intro|exact vW|with_reducible refine And.intro ?_ ?_|exact Chk.mk ⟨rfl,hBl⟩|exact Chk.mk (ext_push rfl))) <;> fail)|(refine ⟨⟨[some 0,some 1,some 3],[],rfl,rfl,?_,?_⟩⟩ <;> (repeat' ((conv=>whnf); first|with_reducible exact True.intro|exact vW|with_reducible refine And.intro ?_ ?_|exact Chk.mk ⟨rfl,hBl⟩|exact Chk.mk (ext_push rfl))) <;> fail)
 ·have hBx:∀ x,isPt s x→x=⟨v,B,Q⟩:=fun x q=>by
   have e1:=i3 x q
   have e2:=hMx x q
   have e3:x.bs.length=M.length:=by rw [e2,List.length_map]
   rw [List.take_of_length_le (by omega)] at e1
   have e4:=isPt_rs q
   rw [hL,hQ] at e4
   obtain ⟨xp,xb,xr⟩:=x
   have e5:=hp _ q
   dsimp only at e1 e4 e5
   rw [e1,e4,e5]
  have hyI:placeI ⟨v,B,Q⟩:=⟨⟨⟨hv,i2⟩,by show B.length<_; omega⟩,by show Q.length<_; omega,fun r hr=>by have:=hlm r (by rw [← hQ] at hr; exact List.mem_of_mem_drop hr); omega⟩
  cases okp
  ·repeat' (first|refine vz ?_|(conv=>whnf); first|with_reducible first|refine Sp.mk ?_ ?_|refine br_d (fun _=>?_) fun _=>?_|refine vM (fun _=>?_) fun _=>?_)
   refine ⟨_,?_,hno fun ⟨x,q⟩=>by cases hpn x q⟩
   repeat' ((conv=>whnf); first|with_reducible exact True.intro|exact vW|with_reducible refine And.intro ?_ ?_)
  by_cases hO:placeOk ⟨v,B,Q⟩
  ·repeat' (first|refine vz ?_|(conv=>whnf); first|with_reducible first|refine Sp.mk ?_ ?_|refine br_d (fun _=>?_) fun _=>?_|refine vM (fun _=>?_) fun _=>?_)
   refine ⟨⟨v,B,Q⟩,?_,⟨hyI⟩,?_⟩
   ·repeat' ((conv=>whnf); first|with_reducible exact True.intro|exact vW|with_reducible refine And.intro ?_ ?_)
    all_goals exact Chk.mk ⟨rfl,fun i _=>by dsimp only; rw [Nat.zero_add]⟩
   repeat' (first|refine vz ?_|(conv=>whnf); first|with_reducible first|refine Sp.mk ?_ ?_|refine br_d (fun _=>?_) fun _=>?_|refine vM (fun _=>?_) fun _=>?_)
   refine ⟨⟨v,B,Q⟩,?_,⟨hO⟩,?_⟩
   ·repeat' ((conv=>whnf); first|with_reducible exact True.intro|exact vW|with_reducible refine And.intro ?_ ?_)
    all_goals exact Chk.mk ⟨rfl,fun i _=>by dsimp only; rw [Nat.zero_add]⟩
   repeat' ((conv=>whnf); first|with_reducible refine wk_at 16 ?_|with_reducible refine wk_at1 16 ?_|with_reducible refine wk_at2 16 ?_|refine vA ?_|with_reducible first|refine v8 ?_|refine Ch.l ?_|refine Sp.mk ?_ ?_|refine vS ?_|refine vR ?_|refine vB ?_|refine br_nt ?_|refine br_tt ?_|refine br_ff ?_|refine vP ?_|refine vQ ?_|refine vT ?_|refine vF ?_|refine br_and ?_|refine br_or ?_|refine br_d (fun _=>?_) fun _=>?_|refine vM (fun _=>?_) fun _=>?_)
   ·rename_i he
    refine ⟨Wk.go [(2,.ptr 0 0),(7,.ptr 1 0)] [.box [.int .i64 0,.nils,.nils],.box [.int .i64 v,slI B,slS Q]] ⟨⟨[some 0,some 1],[2],rfl,rfl,?_,?_⟩⟩ ?_⟩
    ·exact wq
    ·repeat' ((conv=>whnf); first|with_reducible exact True.intro|exact vW|with_reducible refine And.intro ?_ ?_)
     all_goals exact Chk.mk ⟨rfl,by omega,fun i _=>by dsimp only; rw [Nat.zero_add]⟩
    repeat' (first|refine vz ?_|(conv=>whnf); first|with_reducible first|refine Sp.mk ?_ ?_|refine br_d (fun _=>?_) fun _=>?_|refine vM (fun _=>?_) fun _=>?_)
    refine ⟨⟨v,B,Q⟩,?_,⟨placeOk_short' hO⟩,?_⟩
    ·exact wq
    dsimp only [enPl,plC]
    repeat' (first|refine vz ?_|(conv=>whnf); first|with_reducible first|refine Sp.mk ?_ ?_|refine br_d (fun _=>?_) fun _=>?_|refine vM (fun _=>?_) fun _=>?_)
    refine ⟨_,?_,h ⟨v,B,Q⟩ ⟨hO,he⟩⟩
    repeat' ((conv=>whnf); first|with_reducible exact True.intro|exact vW|with_reducible refine And.intro ?_ ?_)
   ·rename_i he
    refine ⟨_,?_,hno fun ⟨x,q⟩=>he (by rw [← hBx x q]; exact q.2)⟩
    repeat' ((conv=>whnf); first|with_reducible exact True.intro|exact vW|with_reducible refine And.intro ?_ ?_)
  ·repeat' (first|refine vz ?_|(conv=>whnf); first|with_reducible first|refine Sp.mk ?_ ?_|refine br_d (fun _=>?_) fun _=>?_|refine vM (fun _=>?_) fun _=>?_)
   refine ⟨⟨v,B,Q⟩,?_,⟨hyI⟩,?_⟩
   ·repeat' ((conv=>whnf); first|with_reducible exact True.intro|exact vW|with_reducible refine And.intro ?_ ?_)
    all_goals exact Chk.mk ⟨rfl,fun i _=>by dsimp only; rw [Nat.zero_add]⟩
   repeat' (first|refine vz ?_|(conv=>whnf); first|with_reducible first|refine Sp.mk ?_ ?_|refine br_d (fun _=>?_) fun _=>?_|refine vM (fun _=>?_) fun _=>?_)
   refine ⟨_,?_,hno fun ⟨x,q⟩=>hO (by rw [← hBx x q]; exact q.1)⟩
   repeat' ((conv=>whnf); first|with_reducible exact True.intro|exact vW|with_reducible refine And.intro ?_ ?_)
end Go.Proofs.YtgdbhjmpkkbnnaaGreatDoor.Vc
end
section
/- Part UG: texts of places are read: the law. -/
namespace Go.Proofs.YtgdbhjmpkkbnnaaGreatDoor.Vc
open Go.Proofs
set_option maxRecDepth 10000
set_option maxHeartbeats 4000000
end Go.Proofs.YtgdbhjmpkkbnnaaGreatDoor.Vc
end
section
/- Part UH: read texts are canonical: the law. -/
namespace Go.Proofs.YtgdbhjmpkkbnnaaGreatDoor.Vc
open Go.Proofs
set_option maxRecDepth 10000
set_option maxHeartbeats 4000000
theorem no_empty (h:House):bad h ⟨#[]⟩=true:=by
 unfold bad rdT
 rfl
theorem I_of {x:Place} (h:placeOk x):placeI x:=by
 have hb:=placeOk_small h
 exact ⟨⟨⟨⟨by have:=hb.2.1; show -9223372036854775808≤x.p; omega,by have:=hb.2.2.1; show x.p≤9223372036854775807; omega⟩,fun b q=>by have:=hb.1.2 b q; exact ⟨by omega,by omega⟩⟩,by have:=hb.1.1; show x.bs.length<_; omega⟩,by have:=h.2.1.2; omega,fun r q=>by have:=hb.2.2.2 r q; omega⟩
end Go.Proofs.YtgdbhjmpkkbnnaaGreatDoor.Vc
end
section
/- Part XE: the laws on texts of deeds that are read. -/
namespace Go.Proofs.YtgdbhjmpkkbnnaaGreatDoor.Vc
open Go.Proofs
set_option maxRecDepth 10000
set_option maxHeartbeats 4000000
theorem drawnP.S {x:Place} (h:drawnP x):placeS x:=⟨h.I,h.bl,Nat.le_trans h.rl (by decide)⟩
end Go.Proofs.YtgdbhjmpkkbnnaaGreatDoor.Vc
end
section
/- Part XH: deeds that are drawn; the laws on journals. -/
namespace Go.Proofs.YtgdbhjmpkkbnnaaGreatDoor.Vc
open Go.Proofs
set_option maxRecDepth 10000
set_option maxHeartbeats 4000000
def drawnL (l:List Dd):Prop:=l.length≤6∧∀ a∈l,drawnA a
theorem wsum_le {l:List Dd} {M:Nat} (h:∀ a∈l,a.words.size≤M):∀ i,i≤l.length→wsum l i≤M*i
 |0,_=>Nat.le_refl _
 |i+1,hi=>by
  have h1:=wsum_le h i (by omega)
  have h2:=h _ (getD_mem' (d:=default) hi)
  show wsum l i+_≤_
  rw [Nat.mul_add,Nat.mul_one]
  omega
theorem drawnL.j {l:List Dd} (h:drawnL l):jOk l:=by
 have:=wsum_le (M:=10000) (fun a ha=>(h.2 a ha).w0) _ (Nat.le_refl l.length)
 have:=h.1
 unfold jOk
 omega
end Go.Proofs.YtgdbhjmpkkbnnaaGreatDoor.Vc
end
section
/- Part TP: desks whose past is a row of one's own. -/
namespace Go.Proofs.YtgdbhjmpkkbnnaaGreatDoor.Vc
open Go.Proofs
set_option maxRecDepth 10000
set_option maxHeartbeats 4000000
structure Dk where
 x:Place
 L:List Place
 n:Nat
def Dk.d (k:Dk):Desk:=⟨k.x,k.L.take k.n⟩
end Go.Proofs.YtgdbhjmpkkbnnaaGreatDoor.Vc
end
section
/- Part TQ: desks that are drawn. -/
namespace Go.Proofs.YtgdbhjmpkkbnnaaGreatDoor.Vc
open Go.Proofs
set_option maxRecDepth 10000
set_option maxHeartbeats 4000000
end Go.Proofs.YtgdbhjmpkkbnnaaGreatDoor.Vc
end
section
/- Part TR: the law of desks. -/
namespace Go.Proofs.YtgdbhjmpkkbnnaaGreatDoor.Vc
open Go.Proofs
set_option maxRecDepth 10000
set_option maxHeartbeats 4000000
end Go.Proofs.YtgdbhjmpkkbnnaaGreatDoor.Vc
end
section
/- Part XL: deeds at desks, one and many, by both sides; drawn ones. -/
namespace Go.Proofs.YtgdbhjmpkkbnnaaGreatDoor.Vc
open Go.Proofs
set_option maxRecDepth 10000
set_option maxHeartbeats 4000000
theorem deskOk_I {d:Desk} (h:deskOk d):deskI d:=⟨I_of h.1,by have:=h.2.1; omega,fun p hp=>I_of (h.2.2 p hp)⟩
structure Rn where
 d:Desk
 l:List Dd
structure Ri where
 i:Nat
 e:Desk
 n:Nat
def rnPre (x:Rn):Prop:=deskOk x.d∧(∀ a∈x.l,dedI a)∧x.l.length≤1048576
def C257:List AV→(AV→Prop)→Prop:=con (X:=Rn) (fun x=>[enDe x.d,slD x.l]) rnPre fun x K=>K (.tup [enDe (runD x.d x.l).1,.int .i64 ((runD x.d x.l).2:Nat)])
theorem F257:FF 61 C257:=by
 refine fitXE [(23,C183)] (by simp only [List.mem_cons,List.not_mem_nil,or_false]; rintro _ rfl; exact F183) [(39,C198)] (by simp only [List.mem_cons,List.not_mem_nil,or_false]; rintro _ rfl; exact F198) Tryz.f61 ⟨rfl,by decide +kernel,by decide +kernel⟩ (fun _ _ _ hk h=>hk _ h) ?_
 rintro ⟨⟨⟨p,bs,rs⟩,past⟩,l⟩ K ⟨hO,hl,hll⟩ h
 refine ⟨Nat.le_of_ble_eq_true rfl,?_⟩
 dsimp only at hO hl hll h
 have hs:=deskOk_short hO
 dsimp only [enDe,deC] at h ⊢
 repeat' (first|refine vz ?_|(conv=>whnf); first|with_reducible first|refine Sp.mk ?_ ?_|refine br_d (fun _=>?_) fun _=>?_|refine vM (fun _=>?_) fun _=>?_)
 refine ⟨_,_,[],[],rfl,?_,?_,⟨⟨p,bs,rs⟩,past⟩,rfl,rfl,⟨hs⟩,?_⟩
 ·exact wq
 ·exact wq
 dsimp only [deG,psO]
 repeat' (first|refine vz ?_|(conv=>whnf); first|with_reducible first|refine Sp.mk ?_ ?_|refine br_d (fun _=>?_) fun _=>?_|refine vM (fun _=>?_) fun _=>?_)
 refine Lp.mk ⟨Ri,fun x=>[(1,slD l),(4,.ptr 0 0),(6,.ptr 1 0),(7,.int .i64 x.n),(8,.int .i64 x.i)],fun x=>[.box [.int .i64 0,.nils,.nils,.nils],.box [.int .i64 x.e.now.p,slI x.e.now.bs,slS x.e.now.rules,slP x.e.past]],fun x=>x.i≤l.length∧runD ⟨⟨p,bs,rs⟩,past⟩ (l.take x.i)=(x.e,x.n),fun x=>l.length-x.i,⟨⟨0,⟨⟨p,bs,rs⟩,past⟩,0⟩,⟨Nat.zero_le _,rfl⟩,?_⟩,?_⟩
 ·first|(refine ⟨⟨[some 1,some 3],[2],rfl,rfl,?_,?_⟩⟩ <;> (repeat' ((conv=>whnf); first|with_reducible exact True.intro|exact vW|with_reducible refine And.intro ?_ ?_|exact Chk.mk ⟨rfl,by dsimp only; omega,fun i _=>by dsimp only; (try rw [Nat.zero_add]); try rfl⟩)) <;> fail)|(refine ⟨⟨[some 1,some 2],[3],rfl,rfl,?_,?_⟩⟩ <;> (repeat' ((conv=>whnf); first|with_reducible exact True.intro|exact vW|with_reducible refine And.intro ?_ ?_|exact Chk.mk ⟨rfl,by dsimp only; omega,fun i _=>by dsimp only; (try rw [Nat.zero_add]); try rfl⟩)) <;> fail)
 rintro ⟨i,⟨⟨ep,eb,er⟩,el⟩,n⟩ ⟨i1,i2⟩
 dsimp only at i1 i2 ⊢
 have hOe:deskOk ⟨⟨ep,eb,er⟩,el⟩:=by have:=runD_ok hO (l.take i); rw [i2] at this; exact this
 have hn:=runD_le ⟨⟨p,bs,rs⟩,past⟩ (l.take i)
 rw [i2,List.length_take] at hn
 dsimp only at hn
 by_cases hi:i<l.length
 ·have hst:=take_step hi
  have ha:=hl _ (getD_mem' (d:=default) hi)
  generalize hA:l.getD i default=A at ha hst
  have hA':l.getD (i:Int).toNat default=A:=hA
  repeat' (first|refine vz ?_|(conv=>whnf); first|with_reducible first|refine Sp.mk ?_ ?_|refine br_d (fun _=>?_) fun _=>?_|refine vM (fun _=>?_) fun _=>?_)
  refine Dr.mk ⟨(.rd 0 (.rd 1 (.rd 2 (.rd 3 (.rd 4 (.ef 5 (.rd 6 (.rd 7 (.rd 8 (.ef 9 (.ef 10 (.rd 11 .dn) .no) .no)))) (.ef 9 (.ef 5 (.rd 6 (.rd 7 (.rd 8 (.ef 10 (.rd 11 .dn) .no)))) .no) .no))))))),by decide +kernel,?_⟩
  repeat' (first|refine vz ?_|(conv=>whnf); first|with_reducible first|refine Sp.mk ?_ ?_|refine br_d (fun _=>?_) fun _=>?_|refine vM (fun _=>?_) fun _=>?_)
  all_goals
   refine ⟨⟨⟨⟨ep,eb,er⟩,el⟩,A⟩,?_,⟨deskOk_I hOe,ha⟩,?_⟩
   ·repeat' ((conv=>whnf); first|with_reducible exact True.intro|exact vW|with_reducible refine And.intro ?_ ?_)
    all_goals first|exact Chk.mk (by rw [hA'])
   dsimp only
   cases hd:doD ⟨⟨ep,eb,er⟩,el⟩ A with
   |none =>
    have hr:runD ⟨⟨p,bs,rs⟩,past⟩ (l.take (i+1))=(⟨⟨ep,eb,er⟩,el⟩,n):=by rw [hst,runD_none (by rw [i2]; exact hd),i2]
    rw [afterD_none hOe hd,canD_none hd]
    dsimp only [enDe,deC]
    repeat' (first|refine vz ?_|(conv=>whnf); first|with_reducible first|refine Sp.mk ?_ ?_|refine br_d (fun _=>?_) fun _=>?_|refine vM (fun _=>?_) fun _=>?_)
    refine ⟨⟨i+1,⟨⟨ep,eb,er⟩,el⟩,n⟩,⟨by dsimp only; omega,hr⟩,by dsimp only; omega,?_⟩
    first|(refine ⟨⟨[some 0,some 1],[],rfl,rfl,?_,?_⟩⟩ <;> (repeat' ((conv=>whnf); first|with_reducible exact True.intro|exact vW|with_reducible refine And.intro ?_ ?_)) <;> fail)
   |some e =>
    have hr:runD ⟨⟨p,bs,rs⟩,past⟩ (l.take (i+1))=(e,n+1):=by rw [hst,runD_some (by rw [i2]; exact hd),i2]
    rw [afterD_some hOe hd,canD_some hOe hd]
    obtain ⟨⟨fp,fb,fr⟩,fl⟩:=e
    dsimp only [enDe,deC]
    repeat' (first|refine vz ?_|(conv=>whnf); first|with_reducible first|refine Sp.mk ?_ ?_|refine br_d (fun _=>?_) fun _=>?_|refine vM (fun _=>?_) fun _=>?_)
    refine ⟨⟨i+1,⟨⟨fp,fb,fr⟩,fl⟩,n+1⟩,⟨by dsimp only; omega,hr⟩,by dsimp only; omega,?_⟩
    first|(refine ⟨⟨[some 0,some 1],[],rfl,rfl,?_,?_⟩⟩ <;> (repeat' ((conv=>whnf); first|with_reducible exact True.intro|exact vW|with_reducible refine And.intro ?_ ?_)) <;> fail)
 ·obtain rfl:i=l.length:=by omega
  rw [List.take_length] at i2
  rw [i2] at h
  repeat' (first|refine vz ?_|(conv=>whnf); first|with_reducible first|refine Sp.mk ?_ ?_|refine br_d (fun _=>?_) fun _=>?_|refine vM (fun _=>?_) fun _=>?_)
  refine ⟨_,?_,h⟩
  repeat' ((conv=>whnf); first|with_reducible exact True.intro|exact vW|with_reducible refine And.intro ?_ ?_)
end Go.Proofs.YtgdbhjmpkkbnnaaGreatDoor.Vc
end
section
/- Part NB: a deed at a desk, with nested memory of its own. -/
namespace Go.Proofs.YtgdbhjmpkkbnnaaGreatDoor.Vc
open Go.Proofs
set_option maxRecDepth 10000
set_option maxHeartbeats 4000000
def C261o:GC:=fun us og K=>C261 us og K∨C261n us og K
theorem F261o:GG 56 C261o:=fun w hw=>orG (F261 w hw) (F261n w hw)
def C254n:GC:=conG (X:=De) (fun x=>[enDe x.d,ded x.a]) (fun _=>[]) (fun x=>deskI x.d∧deskOk x.d∧dedI x.a) fun x K=>K (.tup [deN ((doD x.d x.a).getD x.d),.bool (doD x.d x.a).isSome]) (deO ((doD x.d x.a).getD x.d))
theorem F254n:GG 60 C254n:=by
 refine fitG [(103,C262),(89,C152),(104,C263)] (by simp only [List.mem_cons,List.not_mem_nil,or_false]; rintro _ (rfl|rfl|rfl) <;> first|exact F262|exact F152|exact F263) [(56,C261o)] (by simp only [List.mem_cons,List.not_mem_nil,or_false]; rintro _ rfl <;> first|exact F261o) Tryz.f60 ⟨rfl,by decide +kernel,by decide +kernel⟩ (by intro x K K2 hk h; (try dsimp only at h ⊢); intros; apply hk; first|exact h|(apply h <;> assumption)) ?_
 rintro ⟨⟨⟨p,bs,rs⟩,l⟩,⟨k,a,b,w⟩⟩ K ⟨hI,hO,ha⟩ h
 refine ⟨Nat.le_of_ble_eq_true rfl,?_⟩
 have hs:=deskOk_short hO
 have hs2:=hO.2.1
 dsimp only [enDe,deC,ded,encD] at hI ha hs2 h ⊢
 cases hd:doD ⟨⟨p,bs,rs⟩,l⟩ ⟨k,a,b,w⟩ with
 |none =>
  rw [hd] at h
  dsimp only [Option.getD_none,Option.isSome_none,deN,deO,npO] at h
  repeat' (first|refine vz ?_|(conv=>whnf); first|with_reducible first|refine Sp.mk ?_ ?_|refine br_d (fun _=>?_) fun _=>?_|refine vM (fun _=>?_) fun _=>?_)
  refine ⟨_,_,[],[],rfl,?_,?_,.inr ⟨⟨⟨p,bs,rs⟩,l⟩,rfl,rfl,⟨hs⟩,?_⟩⟩
  ·exact wq
  ·exact wq
  dsimp only [deN,deO,npO]
  repeat' (first|refine vz ?_|(conv=>whnf); first|with_reducible first|refine Sp.mk ?_ ?_|refine br_d (fun _=>?_) fun _=>?_|refine vM (fun _=>?_) fun _=>?_)
  ·refine ⟨_,_,[some 3,some 4,some 5],[],rfl,rfl,?_,?_,h⟩
   ·exact wq
   ·exact wq
  ·rename_i q1 q2 q3 q4 q5
   obtain rfl:k=4:=q1
   obtain rfl:a=0:=q2
   obtain rfl:b=0:=q3
   obtain rfl:w=⟨#[]⟩:=q4
   have e:doD ⟨⟨p,bs,rs⟩,l⟩ ⟨4,0,0,⟨#[]⟩⟩=some _:=doD_back1 (show 0<l.length by omega)
   rw [e] at hd
   cases hd
  all_goals
   have hnb:(⟨k,a,b,w⟩:Dd)≠backD:=by
    intro e
    have e3:=congrArg Dd.kind e
    have e4:=congrArg Dd.a e
    have e5:=congrArg Dd.b e
    have e6:=congrArg Dd.words e
    dsimp only [backD] at e3 e4 e5 e6
    first|omega|exact absurd e6 (by assumption)
   have hMI:=madeP_I (a:=⟨k,a,b,w⟩) hI.1 hs.1 ha
   refine ⟨⟨⟨p,bs,rs⟩,⟨k,a,b,w⟩⟩,?_,⟨hI.1,hO.1,ha⟩,?_⟩
   ·exact wq
   intro y ok hy1 hy2
   dsimp only at hy1 hy2
   cases ok
   ·obtain ⟨yp,yb,yr⟩:=y
    dsimp only [enPl,plC]
    repeat' (first|refine vz ?_|(conv=>whnf); first|with_reducible first|refine Sp.mk ?_ ?_|refine br_d (fun _=>?_) fun _=>?_|refine vM (fun _=>?_) fun _=>?_)
    refine ⟨_,_,[some 3,some 4,some 5],[],rfl,rfl,?_,?_,h⟩
    ·exact wq
    ·exact wq
   ·have hy:=hy1 rfl
    rw [← hy] at hMI
    have eN:=@doD_new ⟨⟨p,bs,rs⟩,l⟩ ⟨k,a,b,w⟩ hnb hO.1
    dsimp only at eN
    rw [← hy] at eN
    obtain ⟨yp,yb,yr⟩:=y
    clear hy hy1 hy2
    dsimp only [enPl,plC]
    by_cases hp:placeOk ⟨yp,yb,yr⟩
    ·repeat' (first|refine vz ?_|(conv=>whnf); first|with_reducible first|refine Sp.mk ?_ ?_|refine br_d (fun _=>?_) fun _=>?_|refine vM (fun _=>?_) fun _=>?_)
     refine ⟨⟨yp,yb,yr⟩,?_,⟨hMI⟩,?_⟩
     ·exact wq
     repeat' (first|refine vz ?_|(conv=>whnf); first|with_reducible first|refine Sp.mk ?_ ?_|refine br_d (fun _=>?_) fun _=>?_|refine vM (fun _=>?_) fun _=>?_)
     refine ⟨⟨⟨yp,yb,yr⟩,⟨p,bs,rs⟩⟩,?_,⟨hMI.1.2,hMI.2.1⟩,?_⟩
     ·exact wq
     intro same hsame
     dsimp only at hsame
     cases same
     ·have hne:(⟨yp,yb,yr⟩:Place)≠⟨p,bs,rs⟩:=fun e=>by have:=hsame.2 e; cases this
      rw [eN hp hne] at hd
      cases hd
     ·repeat' (first|refine vz ?_|(conv=>whnf); first|with_reducible first|refine Sp.mk ?_ ?_|refine br_d (fun _=>?_) fun _=>?_|refine vM (fun _=>?_) fun _=>?_)
      refine ⟨_,_,[some 3,some 4,some 5],[],rfl,rfl,?_,?_,h⟩
      ·exact wq
      ·exact wq
    ·repeat' (first|refine vz ?_|(conv=>whnf); first|with_reducible first|refine Sp.mk ?_ ?_|refine br_d (fun _=>?_) fun _=>?_|refine vM (fun _=>?_) fun _=>?_)
     refine ⟨⟨yp,yb,yr⟩,?_,⟨hMI⟩,?_⟩
     ·exact wq
     repeat' (first|refine vz ?_|(conv=>whnf); first|with_reducible first|refine Sp.mk ?_ ?_|refine br_d (fun _=>?_) fun _=>?_|refine vM (fun _=>?_) fun _=>?_)
     refine ⟨_,_,[some 3,some 4,some 5],[],rfl,rfl,?_,?_,h⟩
     ·exact wq
     ·exact wq
 |some e =>
  rw [hd] at h
  dsimp only [Option.getD_some,Option.isSome_some] at h
  repeat' (first|refine vz ?_|(conv=>whnf); first|with_reducible first|refine Sp.mk ?_ ?_|refine br_d (fun _=>?_) fun _=>?_|refine vM (fun _=>?_) fun _=>?_)
  refine ⟨_,_,[],[],rfl,?_,?_,.inl ⟨⟨⟨p,bs,rs⟩,l⟩,rfl,rfl,⟨hs⟩,?_⟩⟩
  ·exact wq
  ·exact wq
  dsimp only [deG,psO]
  repeat' ((conv=>whnf); first|with_reducible refine wk_at 4 ?_|with_reducible refine wk_at1 4 ?_|with_reducible refine wk_at2 4 ?_|refine vA ?_|with_reducible first|refine v8 ?_|refine Ch.l ?_|refine Sp.mk ?_ ?_|refine vS ?_|refine vR ?_|refine vB ?_|refine br_nt ?_|refine br_tt ?_|refine br_ff ?_|refine vP ?_|refine vQ ?_|refine vT ?_|refine vF ?_|refine br_and ?_|refine br_or ?_|refine br_d (fun _=>?_) fun _=>?_|refine vM (fun _=>?_) fun _=>?_)
  ·rename_i q1 q2 q3 q4
   obtain rfl:k=4:=q1
   obtain rfl:a=0:=q2
   obtain rfl:b=0:=q3
   obtain rfl:w=⟨#[]⟩:=q4
   refine ⟨Wk.go [(4,.ptr 0 0),(6,.ptr 1 0),(7,.int .i64 ((l.length:Int)-1))] [.box [.int .i64 0,.nils,.nils,.nils],.box (deC ⟨⟨p,bs,rs⟩,l⟩)] ⟨⟨[some 2,some 4],[3],rfl,rfl,?_,?_⟩⟩ ?_⟩
   ·exact wq
   ·repeat' ((conv=>whnf); first|with_reducible exact True.intro|exact vW|with_reducible refine And.intro ?_ ?_)
    all_goals exact Chk.mk ⟨rfl,by omega,fun i _=>by dsimp only; (try rw [Nat.zero_add]); try rfl⟩
   dsimp only [deC]
   by_cases hl:l.length=0
   ·rw [show doD ⟨⟨p,bs,rs⟩,l⟩ ⟨4,0,0,⟨#[]⟩⟩=none from doD_back0 hl] at hd
    cases hd
   ·have hlp:0<l.length:=by omega
    have hm:l.getD (l.length-1) default∈l:=getD_mem' (by omega)
    rw [show doD ⟨⟨p,bs,rs⟩,l⟩ ⟨4,0,0,⟨#[]⟩⟩=some _ from doD_back1 hlp] at hd
    cases hd
    have e1:((l.length:Int)-1).toNat=l.length-1:=by omega
    repeat' (first|refine vz ?_|(conv=>whnf); first|with_reducible first|refine Sp.mk ?_ ?_|refine br_d (fun _=>?_) fun _=>?_|refine vM (fun _=>?_) fun _=>?_)
    refine Dr.mk ⟨(.rd 0 (.rd 1 (.rd 2 (.rd 3 (.rd 4 (.rd 5 (.rd 6 (.rd 7 (.rd 8 (.rd 9 (.ef 10 (.ef 11 (.rd 12 .dn) .no) .no))))))))))),by decide +kernel,?_⟩
    repeat' (first|refine vz ?_|(conv=>whnf); first|with_reducible first|refine Sp.mk ?_ ?_|refine br_d (fun _=>?_) fun _=>?_|refine vM (fun _=>?_) fun _=>?_)
    refine ⟨_,_,[],[],rfl,?_,?_,.inr ⟨⟨l.getD (l.length-1) default,l.take (l.length-1)⟩,rfl,rfl,⟨⟨hs.2.2 _ hm,by dsimp only; rw [List.length_take]; omega,fun x hx=>hs.2.2 x (List.mem_of_mem_take hx)⟩⟩,?_⟩⟩
    ·rw [e1]
     repeat' ((conv=>whnf); first|with_reducible exact True.intro|exact vW|with_reducible refine And.intro ?_ ?_)
     all_goals exact Chk.mk (takeP_ext (by omega))
    ·exact wq
    dsimp only [deN,deO,npO] at h ⊢
    repeat' (first|refine vz ?_|(conv=>whnf); first|with_reducible first|refine Sp.mk ?_ ?_|refine br_d (fun _=>?_) fun _=>?_|refine vM (fun _=>?_) fun _=>?_)
    refine ⟨_,_,[some 2,some 3,some 4],[],rfl,rfl,?_,?_,h⟩
    ·exact wq
    ·exact wq
  all_goals
   have hnb:(⟨k,a,b,w⟩:Dd)≠backD:=by
    intro e
    have e3:=congrArg Dd.kind e
    have e4:=congrArg Dd.a e
    have e5:=congrArg Dd.b e
    have e6:=congrArg Dd.words e
    dsimp only [backD] at e3 e4 e5 e6
    first|omega|exact absurd e6 (by assumption)
   have hMI:=madeP_I (a:=⟨k,a,b,w⟩) hI.1 hs.1 ha
   refine ⟨⟨⟨p,bs,rs⟩,⟨k,a,b,w⟩⟩,?_,⟨hI.1,hO.1,ha⟩,?_⟩
   ·exact wq
   intro y ok hy1 hy2
   dsimp only at hy1 hy2
   cases ok
   ·have hno:doD ⟨⟨p,bs,rs⟩,l⟩ ⟨k,a,b,w⟩=none:=doD_bad hnb (by dsimp only; rw [hy2 rfl]; exact no_place)
    rw [hno] at hd
    cases hd
   ·have hy:=hy1 rfl
    rw [← hy] at hMI
    have eB:=@doD_bad ⟨⟨p,bs,rs⟩,l⟩ ⟨k,a,b,w⟩ hnb
    have eS:=@doD_same ⟨⟨p,bs,rs⟩,l⟩ ⟨k,a,b,w⟩ hnb
    have eN:=@doD_new ⟨⟨p,bs,rs⟩,l⟩ ⟨k,a,b,w⟩ hnb hO.1
    dsimp only at eB eS eN
    rw [← hy] at eB eS eN
    obtain ⟨yp,yb,yr⟩:=y
    clear hy hy1 hy2
    dsimp only [enPl,plC]
    by_cases hp:placeOk ⟨yp,yb,yr⟩
    ·repeat' (first|refine vz ?_|(conv=>whnf); first|with_reducible first|refine Sp.mk ?_ ?_|refine br_d (fun _=>?_) fun _=>?_|refine vM (fun _=>?_) fun _=>?_)
     refine ⟨⟨yp,yb,yr⟩,?_,⟨hMI⟩,?_⟩
     ·exact wq
     repeat' (first|refine vz ?_|(conv=>whnf); first|with_reducible first|refine Sp.mk ?_ ?_|refine br_d (fun _=>?_) fun _=>?_|refine vM (fun _=>?_) fun _=>?_)
     refine ⟨⟨⟨yp,yb,yr⟩,⟨p,bs,rs⟩⟩,?_,⟨hMI.1.2,hMI.2.1⟩,?_⟩
     ·exact wq
     intro same hsame
     dsimp only at hsame
     cases same
     ·have hne:(⟨yp,yb,yr⟩:Place)≠⟨p,bs,rs⟩:=fun e=>by have:=hsame.2 e; cases this
      rw [eN hp hne] at hd
      cases hd
      dsimp only [deN,deO,npO] at h
      have hpl:(pushP l ⟨p,bs,rs⟩).length≤8:=pushP_len hs2
      have hpm:=@pushP_mem l ⟨p,bs,rs⟩
      repeat' ((conv=>whnf); first|with_reducible refine wk_at 13 ?_|with_reducible refine wk_at1 13 ?_|with_reducible refine wk_at2 13 ?_|refine vA ?_|with_reducible first|refine v8 ?_|refine Ch.l ?_|refine Sp.mk ?_ ?_|refine vS ?_|refine vR ?_|refine vB ?_|refine br_nt ?_|refine br_tt ?_|refine br_ff ?_|refine vP ?_|refine vQ ?_|refine vT ?_|refine vF ?_|refine br_and ?_|refine br_or ?_|refine br_d (fun _=>?_) fun _=>?_|refine vM (fun _=>?_) fun _=>?_)
      ·rename_i h8
       have hx:=pushP_ext (l:=l) (x:=⟨p,bs,rs⟩) (g:=fun i=>(fun i=>[plC ⟨p,bs,rs⟩].getD i (lookT TT 34).z) (0+i)) rfl (by omega)
       generalize pushP l ⟨p,bs,rs⟩=M at hpl hpm hx h ⊢
       refine ⟨Wk.go [(4,.ptr 0 0),(8,.ptr 1 0),(10,slP M)] [.box [.int .i64 0,.nils,.nils,.nils],.box [.int .i64 yp,slI yb,slS yr]] ⟨⟨[some 2,some 5],[7],rfl,rfl,?_,?_⟩⟩ ?_⟩
       ·repeat' ((conv=>whnf); first|with_reducible exact True.intro|exact vW|with_reducible refine And.intro ?_ ?_)
        all_goals exact Chk.mk ⟨hx.1,by omega,hx.2⟩
       ·exact wq
       repeat' (first|refine vz ?_|(conv=>whnf); first|with_reducible first|refine Sp.mk ?_ ?_|refine br_d (fun _=>?_) fun _=>?_|refine vM (fun _=>?_) fun _=>?_)
       refine ⟨_,_,[],[],rfl,?_,?_,.inr ⟨⟨⟨yp,yb,yr⟩,M⟩,rfl,rfl,⟨⟨placeOk_short hp,by dsimp only; omega,fun x hx=>(hpm x hx).elim (hs.2.2 x) fun e=>e ▸ hs.1⟩⟩,?_⟩⟩
       ·exact wq
       ·exact wq
       dsimp only [deN,deO,npO]
       repeat' (first|refine vz ?_|(conv=>whnf); first|with_reducible first|refine Sp.mk ?_ ?_|refine br_d (fun _=>?_) fun _=>?_|refine vM (fun _=>?_) fun _=>?_)
       refine ⟨_,_,[some 2,some 3,some 4],[],rfl,rfl,?_,?_,h⟩
       ·exact wq
       ·exact wq
      ·rename_i h8
       have hx:=pushP_ext' (l:=l) (x:=⟨p,bs,rs⟩) (g:=fun i=>(fun i=>[plC ⟨p,bs,rs⟩].getD i (lookT TT 34).z) (0+i)) rfl (by omega)
       generalize pushP l ⟨p,bs,rs⟩=M at hpl hpm hx h ⊢
       refine ⟨Wk.go [(4,.ptr 0 0),(8,.ptr 1 0),(10,slP M)] [.box [.int .i64 0,.nils,.nils,.nils],.box [.int .i64 yp,slI yb,slS yr]] ⟨⟨[some 2,some 5],[7],rfl,rfl,?_,?_⟩⟩ ?_⟩
       ·repeat' ((conv=>whnf); first|with_reducible exact True.intro|exact vW|with_reducible refine And.intro ?_ ?_)
        all_goals exact Chk.mk ⟨hx.1,by omega,hx.2⟩
       ·exact wq
       repeat' (first|refine vz ?_|(conv=>whnf); first|with_reducible first|refine Sp.mk ?_ ?_|refine br_d (fun _=>?_) fun _=>?_|refine vM (fun _=>?_) fun _=>?_)
       refine ⟨_,_,[],[],rfl,?_,?_,.inr ⟨⟨⟨yp,yb,yr⟩,M⟩,rfl,rfl,⟨⟨placeOk_short hp,by dsimp only; omega,fun x hx=>(hpm x hx).elim (hs.2.2 x) fun e=>e ▸ hs.1⟩⟩,?_⟩⟩
       ·exact wq
       ·exact wq
       dsimp only [deN,deO,npO]
       repeat' (first|refine vz ?_|(conv=>whnf); first|with_reducible first|refine Sp.mk ?_ ?_|refine br_d (fun _=>?_) fun _=>?_|refine vM (fun _=>?_) fun _=>?_)
       refine ⟨_,_,[some 2,some 3,some 4],[],rfl,rfl,?_,?_,h⟩
       ·exact wq
       ·exact wq
     ·rw [eS (hsame.1 rfl)] at hd
      cases hd
    ·rw [eB hp] at hd
     cases hd
end Go.Proofs.YtgdbhjmpkkbnnaaGreatDoor.Vc
end
section
/- Part NC: deeds at desks, one and many, with nested memory of their own. -/
namespace Go.Proofs.YtgdbhjmpkkbnnaaGreatDoor.Vc
open Go.Proofs
set_option maxRecDepth 10000
set_option maxHeartbeats 4000000
theorem sca_pl (x:Place):∀ v,v∈plC x→sca2 v:=by
 intro v hv
 simp only [plC,List.mem_cons,List.not_mem_nil,or_false] at hv
 rcases hv with rfl|rfl|rfl
 ·exact rfl
 ·exact fun _ _=>rfl
 ·exact fun _ _=>rfl
theorem sca_de (d:Desk):scaO (deO d):=⟨fun _ _=>rfl,fun _ _=>rfl,fun _ _ v hv=>sca_pl _ v hv,trivial⟩
def C256n:GC:=conG (X:=Rn) (fun x=>[enDe x.d,slD x.l]) (fun _=>[]) rnPre fun x K=>K (.tup [deN (runD x.d x.l).1,.int .i64 ((runD x.d x.l).2:Nat)]) (deO (runD x.d x.l).1)
theorem F256n:GG 62 C256n:=by
 refine fitG [] (by simp) [(60,C254n),(56,C261n)] (by simp only [List.mem_cons,List.not_mem_nil,or_false]; rintro _ (rfl|rfl) <;> first|exact F254n|exact F261n) Tryz.f62 ⟨rfl,by decide +kernel,by decide +kernel⟩ (by intro x K K2 hk h; (try dsimp only at h ⊢); intros; apply hk; first|exact h|(apply h <;> assumption)) ?_
 rintro ⟨⟨⟨p,bs,rs⟩,past⟩,l⟩ K ⟨hO,hl,hll⟩ h
 refine ⟨Nat.le_of_ble_eq_true rfl,?_⟩
 dsimp only at hO hl hll h
 have hs:=deskOk_short hO
 dsimp only [enDe,deC] at h ⊢
 repeat' (first|refine vz ?_|(conv=>whnf); first|with_reducible first|refine Sp.mk ?_ ?_|refine br_d (fun _=>?_) fun _=>?_|refine vM (fun _=>?_) fun _=>?_)
 refine ⟨_,_,[],[],rfl,?_,?_,⟨⟨p,bs,rs⟩,past⟩,rfl,rfl,⟨hs⟩,?_⟩
 ·exact wq
 ·exact wq
 dsimp only [deN,deO,npO]
 repeat' (first|refine vz ?_|(conv=>whnf); first|with_reducible first|refine Sp.mk ?_ ?_|refine br_d (fun _=>?_) fun _=>?_|refine vM (fun _=>?_) fun _=>?_)
 refine Lp.mk ⟨Ri,fun x=>[(2,.ptr 1 0),(4,.ptr 0 0),(6,.int .i64 x.n),(13,slD l),(14,.int .i64 l.length),(15,.int .i64 x.i)],fun x=>[.box [.int .i64 0,.nils,.nils,.nils],.box [.int .i64 x.e.now.p,.row 2 1 0 x.e.now.bs.length,.row 3 1 0 x.e.now.rules.length,.row 4 3 0 x.e.past.length],.row 1 x.e.now.bs.length fun i=>encI (x.e.now.bs.getD i 0),.row 1 x.e.now.rules.length fun i=>encS (x.e.now.rules.getD i ⟨#[]⟩),npO x.e.past],fun x=>x.i≤l.length∧runD ⟨⟨p,bs,rs⟩,past⟩ (l.take x.i)=(x.e,x.n),fun x=>l.length-x.i,⟨⟨0,⟨⟨p,bs,rs⟩,past⟩,0⟩,⟨Nat.zero_le _,rfl⟩,?_⟩,?_⟩
 ·first|(refine ⟨⟨[some 1,some 0,some 2,some 3,some 4],[],rfl,rfl,?_,?_⟩⟩ <;> (repeat' ((conv=>whnf); first|with_reducible exact True.intro|exact vW|with_reducible refine And.intro ?_ ?_)) <;> fail)
 rintro ⟨i,⟨⟨ep,eb,er⟩,el⟩,n⟩ ⟨i1,i2⟩
 dsimp only [npO] at i1 i2 ⊢
 have hOe:deskOk ⟨⟨ep,eb,er⟩,el⟩:=by have:=runD_ok hO (l.take i); rw [i2] at this; exact this
 have hn:=runD_le ⟨⟨p,bs,rs⟩,past⟩ (l.take i)
 rw [i2,List.length_take] at hn
 dsimp only at hn
 by_cases hi:i<l.length
 ·have hst:=take_step hi
  have ha:=hl _ (getD_mem' (d:=default) hi)
  generalize hA:l.getD i default=A at ha hst
  have hA':l.getD (i:Int).toNat default=A:=hA
  repeat' (first|refine vz ?_|(conv=>whnf); first|with_reducible first|refine Sp.mk ?_ ?_|refine br_d (fun _=>?_) fun _=>?_|refine vM (fun _=>?_) fun _=>?_)
  refine ⟨_,_,[],[2,3,4],rfl,?_,?_,⟨⟨⟨ep,eb,er⟩,el⟩,A⟩,rfl,rfl,⟨deskOk_I hOe,hOe,ha⟩,⟨rfl,sca_de _⟩,?_⟩
  ·repeat' ((conv=>whnf); first|with_reducible exact True.intro|exact vW|with_reducible refine And.intro ?_ ?_)
   all_goals first|exact Chk.mk (by rw [hA'])|exact Chk.mk ⟨rfl,by omega,fun i _=>by dsimp only; (try rw [Nat.zero_add]); try rfl⟩
  ·exact wq
  dsimp only
  cases hd:doD ⟨⟨ep,eb,er⟩,el⟩ A with
  |none =>
   have hr:runD ⟨⟨p,bs,rs⟩,past⟩ (l.take (i+1))=(⟨⟨ep,eb,er⟩,el⟩,n):=by rw [hst,runD_none (by rw [i2]; exact hd),i2]
   dsimp only [deN,deO,npO,Option.getD_none,Option.isSome_none]
   repeat' (first|refine vz ?_|(conv=>whnf); first|with_reducible first|refine Sp.mk ?_ ?_|refine br_d (fun _=>?_) fun _=>?_|refine vM (fun _=>?_) fun _=>?_)
   refine ⟨⟨i+1,⟨⟨ep,eb,er⟩,el⟩,n⟩,⟨by dsimp only; omega,hr⟩,by dsimp only; omega,?_⟩
   first|(refine ⟨⟨[some 0,some 1,some 2,some 3,some 4],[],rfl,rfl,?_,?_⟩⟩ <;> (repeat' ((conv=>whnf); first|with_reducible exact True.intro|exact vW|with_reducible refine And.intro ?_ ?_)) <;> fail)
  |some e =>
   have hr:runD ⟨⟨p,bs,rs⟩,past⟩ (l.take (i+1))=(e,n+1):=by rw [hst,runD_some (by rw [i2]; exact hd),i2]
   obtain ⟨⟨fp,fb,fr⟩,fl⟩:=e
   dsimp only [deN,deO,npO,Option.getD_some,Option.isSome_some]
   repeat' (first|refine vz ?_|(conv=>whnf); first|with_reducible first|refine Sp.mk ?_ ?_|refine br_d (fun _=>?_) fun _=>?_|refine vM (fun _=>?_) fun _=>?_)
   refine ⟨⟨i+1,⟨⟨fp,fb,fr⟩,fl⟩,n+1⟩,⟨by dsimp only; omega,hr⟩,by dsimp only; omega,?_⟩
   first|(refine ⟨⟨[some 0,some 1,some 6,some 7,some 8],[],rfl,rfl,?_,?_⟩⟩ <;> (repeat' ((conv=>whnf); first|with_reducible exact True.intro|exact vW|with_reducible refine And.intro ?_ ?_)) <;> fail)|(refine ⟨⟨[some 0,some 1,some 7,some 8,some 9],[],rfl,rfl,?_,?_⟩⟩ <;> (repeat' ((conv=>whnf); first|with_reducible exact True.intro|exact vW|with_reducible refine And.intro ?_ ?_)) <;> fail)
 ·obtain rfl:i=l.length:=by omega
  rw [List.take_length] at i2
  rw [i2] at h
  dsimp only [deN,deO,npO] at h
  repeat' (first|refine vz ?_|(conv=>whnf); first|with_reducible first|refine Sp.mk ?_ ?_|refine br_d (fun _=>?_) fun _=>?_|refine vM (fun _=>?_) fun _=>?_)
  refine ⟨_,_,[some 2,some 3,some 4],[],rfl,rfl,?_,?_,h⟩
  ·exact wq
  ·exact wq
end Go.Proofs.YtgdbhjmpkkbnnaaGreatDoor.Vc
end
section
/- Part NI: facts and contracts that the exact laws on desks with a past share. -/
namespace Go.Proofs.YtgdbhjmpkkbnnaaGreatDoor.Vc
open Go.Proofs
set_option maxRecDepth 10000
set_option maxHeartbeats 4000000
theorem mkN_bd {B:Nat}:∀ {l:List Place},(∀ x∈l,x.bs.length≤B∧x.rules.length≤B)→mkN l≤l.length*(1+B+B)
 |[],_=>Nat.zero_le _
 |x :: l,h=>by
  have h1:=h x List.mem_cons_self
  have h2:=mkN_bd (l:=l) fun y hy=>h y (List.mem_cons_of_mem _ hy)
  rw [mkN,List.length_cons,Nat.succ_mul]
  omega
theorem placeOk_len {x:Place} (h:placeOk x):x.bs.length≤1000000∧x.rules.length≤1000000:=⟨Nat.le_trans h.1.2.1 (by omega),Nat.le_trans h.2.1.2 (by omega)⟩
theorem placeOk_lenI {x:Place} (h:placeOk x):lenI x:=⟨by have:=(placeOk_len h).1; omega,by have:=(placeOk_len h).2; omega⟩
def okAn (d:Desk):Prop:=deskOk d∨d=default
theorem okAn_len {d:Desk} (h:okAn d):lenD d:=by
 rcases h with h|rfl
 ·exact ⟨placeOk_lenI h.1,by have:=h.2.1; omega,fun x hx=>placeOk_lenI (h.2.2 x hx)⟩
 ·exact ⟨⟨by decide,by decide⟩,by decide,fun x hx=>by cases hx⟩
theorem okAn_mds {d:Desk} (h:okAn d):mdsPre ⟨d,1⟩:=by
 rcases h with h|rfl
 ·have h1:=placeOk_len h.1
  have h2:=mkN_bd (l:=d.past) fun x hx=>placeOk_len (h.2.2 x hx)
  have h3:=h.2.1
  exact ⟨by dsimp only; omega,by dsimp only; omega,by dsimp only; omega,by dsimp only; omega,by dsimp only; omega,by dsimp only; omega⟩
 ·exact ⟨by decide,by decide,by decide,by decide,by decide,by decide⟩
theorem okAn_mkM {d:Desk} (h:okAn d):mkM d≤100000000:=by
 rcases h with h|rfl
 ·have h1:=placeOk_len h.1
  have h2:=mkN_bd (l:=d.past) fun x hx=>placeOk_len (h.2.2 x hx)
  have h3:=h.2.1
  unfold mkM
  omega
 ·decide
theorem fitDe_ok {d:Desk} (h:fitDe 1048576 d):okDe d:=⟨⟨by have:=h.1.1; omega,by have:=h.1.2.1; omega⟩,by have:=h.2.1; omega,fun x hx=>⟨by have:=(h.2.2 x hx).1; omega,by have:=(h.2.2 x hx).2.1; omega⟩⟩
theorem okDe_len {d:Desk} (h:okDe d):lenD d:=⟨⟨h.1.1,by have:=h.1.2; omega⟩,by have:=h.2.1; omega,fun x hx=>⟨(h.2.2 x hx).1,by have:=(h.2.2 x hx).2; omega⟩⟩
theorem okDe_mkN {d:Desk} (h:okDe d):mkN d.past≤2199024304128:=by
 have h2:=mkN_bd (l:=d.past) h.2.2
 have h3:=h.2.1
 omega
theorem okDe_mds {d:Desk} (h:okDe d):mdsPre ⟨d,1⟩:=by
 have h1:=okDe_mkN h
 have h2:=h.1
 have h3:=h.2.1
 unfold okPl at h2
 exact ⟨by dsimp only; omega,by dsimp only; omega,by dsimp only; omega,by dsimp only; omega,by dsimp only; omega,by dsimp only; omega⟩
theorem okDe_mkM {d:Desk} (h:okDe d):mkM d≤2200000000000:=by
 have h1:=okDe_mkN h
 have h2:=h.1
 unfold okPl at h2
 unfold mkM
 omega
def C140d:GC:=conG (X:=Desk) (fun x=>[enDe x]) (fun _=>[]) okDe fun x K=>K (enDe x) []
theorem F140d:GG 10 C140d:=by
 refine fitG [(46,C129),(47,C163)] (by simp only [List.mem_cons,List.not_mem_nil,or_false]; rintro _ (rfl|rfl) <;> first|exact F129|exact F163) [] (by simp) Tryz.f10 ⟨rfl,by decide +kernel,by decide +kernel⟩ (by intro x K K2 hk h; (try dsimp only at h ⊢); intros; apply hk; first|exact h|(apply h <;> assumption)) ?_
 rintro ⟨⟨p,bs,rs⟩,l⟩ K ⟨h1,h2⟩ h
 refine ⟨Nat.le_of_ble_eq_true rfl,?_⟩
 dsimp only [enDe,deC] at h1 h2 h ⊢
 repeat' (first|refine vz ?_|(conv=>whnf); first|with_reducible first|refine Sp.mk ?_ ?_|refine br_d (fun _=>?_) fun _=>?_|refine vM (fun _=>?_) fun _=>?_)
 refine ⟨⟨p,bs,rs⟩,?_,⟨h1⟩,?_⟩
 ·exact wq
 dsimp only [enPl,plC]
 repeat' (first|refine vz ?_|(conv=>whnf); first|with_reducible first|refine Sp.mk ?_ ?_|refine br_d (fun _=>?_) fun _=>?_|refine vM (fun _=>?_) fun _=>?_)
 refine ⟨l,?_,⟨h2⟩,?_⟩
 ·exact wq
 repeat' (first|refine vz ?_|(conv=>whnf); first|with_reducible first|refine Sp.mk ?_ ?_|refine br_d (fun _=>?_) fun _=>?_|refine vM (fun _=>?_) fun _=>?_)
 refine ⟨_,_,[],[],rfl,rfl,?_,?_,h⟩
 ·exact wq
 ·exact wq
def C140o:GC:=fun us og K=>C140n us og K∨C140d us og K
theorem F140o:GG 10 C140o:=fun w hw=>orG (F140n w hw) (F140d w hw)
end Go.Proofs.YtgdbhjmpkkbnnaaGreatDoor.Vc
end
section
/- Part NJ: the law that deeds at desks share no memory. -/
namespace Go.Proofs.YtgdbhjmpkkbnnaaGreatDoor.Vc
open Go.Proofs
set_option maxRecDepth 100000
set_option maxHeartbeats 8000000
end Go.Proofs.YtgdbhjmpkkbnnaaGreatDoor.Vc
end
section
/- Part NK: lists of deeds and of texts as inputs, in memory of their own or as data. -/
namespace Go.Proofs.YtgdbhjmpkkbnnaaGreatDoor.Vc
open Go.Proofs
set_option maxRecDepth 10000
set_option maxHeartbeats 4000000
def C155d:GC:=conG (X:=List ByteArray) (fun l=>[slS l]) (fun _=>[]) (fun l=>l.length≤1048576) fun l K=>K (slS l) []
theorem F155d:GG 17 C155d:=by
 refine fitG [] (by simp) [] (by simp) Tryz.f17 ⟨rfl,by decide +kernel,by decide +kernel⟩ (by intro x K K2 hk h; (try dsimp only at h ⊢); intros; apply hk; first|exact h|(apply h <;> assumption)) ?_
 rintro l K h1 h
 refine ⟨Nat.le_of_ble_eq_true rfl,?_⟩
 repeat' ((conv=>whnf); first|((with_reducible refine And.intro (Chk.mk ?_) ?_); (focus (refine ⟨rfl,?_,?_,?_⟩; (focus omega); (focus omega); (focus (show (16:Int)*_≤_; omega)))))|refine vA ?_|with_reducible first|refine v8 ?_|refine Ch.l ?_|refine Sp.mk ?_ ?_|refine vS ?_|refine vR ?_|refine vB ?_|refine br_nt ?_|refine br_tt ?_|refine br_ff ?_|refine vP ?_|refine vQ ?_|refine vT ?_|refine vF ?_|refine br_and ?_|refine br_or ?_|refine br_d (fun _=>?_) fun _=>?_|refine vM (fun _=>?_) fun _=>?_)
 refine Lp.mk ⟨Nat,fun i=>[(0,slS l),(3,.row 0 1 0 l.length),(4,.int .i64 i)],fun i=>[.row 1 l.length (cpG encS ⟨#[]⟩ [.str ⟨#[]⟩] l i)],fun i=>i≤l.length,fun i=>l.length-i,⟨0,Nat.zero_le _,⟨⟨[some 0],[],rfl,rfl,?_,?_⟩⟩⟩,?_⟩
 ·exact wq
 ·exact wq
 intro i i1
 dsimp only
 repeat' (first|refine vz ?_|(conv=>whnf); first|with_reducible first|refine Sp.mk ?_ ?_|refine br_d (fun _=>?_) fun _=>?_|refine vM (fun _=>?_) fun _=>?_)
 ·refine ⟨i+1,by omega,by omega,⟨⟨[some 0],[],rfl,rfl,?_,?_⟩⟩⟩
  ·exact wq
  ·repeat' ((conv=>whnf); first|with_reducible exact True.intro|exact vW|with_reducible refine And.intro ?_ ?_)
   exact Chk.mk ⟨rfl,fun j _=>by rw [cpG_step,Nat.zero_add,Int.toNat_natCast,cpG_at]; rfl⟩
 ·have he:=cpG_end (enc:=encS) (d:=⟨#[]⟩) (z:=[.str ⟨#[]⟩]) (l:=l) (i:=i) (by omega)
  refine ⟨_,_,[],[0],rfl,rfl,?_,?_,h⟩
  ·repeat' ((conv=>whnf); first|with_reducible exact True.intro|exact vW|with_reducible refine And.intro ?_ ?_)
   all_goals exact Chk.mk ⟨rfl,by omega,fun j hj=>(he j hj).symm⟩
  ·exact wq
def C155o:GC:=fun us og K=>C155g us og K∨C155d us og K
theorem F155o:GG 17 C155o:=fun w hw=>orG (F155g w hw) (F155d w hw)
end Go.Proofs.YtgdbhjmpkkbnnaaGreatDoor.Vc
end
section
/- Part NL: the law that runs of deeds at desks share no memory. -/
namespace Go.Proofs.YtgdbhjmpkkbnnaaGreatDoor.Vc
open Go.Proofs
set_option maxRecDepth 100000
set_option maxHeartbeats 8000000
end Go.Proofs.YtgdbhjmpkkbnnaaGreatDoor.Vc
end
section
/- Part UI: stores: are they stores? -/
namespace Go.Proofs.YtgdbhjmpkkbnnaaGreatDoor.Vc
open Go.Proofs
set_option maxRecDepth 10000
set_option maxHeartbeats 4000000
def storeI (s:Store):Prop:=s.saved.size<9223372036854775808∧s.log.size<9223372036854775808∧i64r s.sure
def C223:List AV→(AV→Prop)→Prop:=con (X:=Store × Int) (fun x=>[enSt x.1,.int .i64 x.2]) (fun x=>storeI x.1∧rng x.2) fun x K=>szpost x.2 (x.1.saved.size≤x.2∧x.1.log.size≤x.2) K
theorem F223:FF 32 C223:=by
 refine fitX [] (by simp) [] (by simp) Tryz.f32 ⟨rfl,by decide +kernel,by decide +kernel⟩ (fun _ _ _ hk h v h1 h2 h3=>hk _ (h v h1 h2 h3)) ?_
 rintro ⟨⟨a,b,c⟩,n⟩ K ⟨⟨h1,h2,h5⟩,h3,h4⟩ h
 refine ⟨Nat.le_of_ble_eq_true rfl,?_⟩
 dsimp only [enSt,stC] at h h1 h2 h3 h4 h5 ⊢
 repeat' (first|refine vz ?_|(conv=>whnf); first|with_reducible first|refine Sp.mk ?_ ?_|refine br_d (fun _=>?_) fun _=>?_|refine vM (fun _=>?_) fun _=>?_)
 all_goals
  first
  |exact h _ (by omega) (by omega) fun q=>⟨by omega,by omega⟩
  |exact h _ (by omega) (by omega) fun q=>absurd q (by decide)
def C224:List AV→(AV→Prop)→Prop:=con (X:=Store) (fun x=>[enSt x]) (fun _=>True) fun x K=>K (enSt x)
theorem F224:FF 34 C224:=by
 refine fitE [] (by simp) Tryz.f34 ⟨rfl,by decide +kernel,by decide +kernel⟩ (fun _ _ _ hk h=>hk _ h) ?_
 rintro ⟨a,b,c⟩ K _ h
 refine ⟨Nat.le_of_ble_eq_true rfl,?_⟩
 dsimp only [enSt,stC] at h ⊢
 repeat' (first|refine vz ?_|(conv=>whnf); first|with_reducible first|refine Sp.mk ?_ ?_|refine br_d (fun _=>?_) fun _=>?_|refine vM (fun _=>?_) fun _=>?_)
 exact h
def isSt (s:Store):Prop:=(∃ x,isPt s.saved x)∧s.log.size≤1000∧0≤s.sure∧s.sure≤s.log.size
def stPost (s:Store) (K:AV→Prop):Prop:=∀ b:Bool,(b=true ↔ isSt s)→K (.bool b)
def C220:List AV→(AV→Prop)→Prop:=con (X:=Store) (fun x=>[enSt x]) (fun s=>storeI s∧s.saved.size<4294967281) stPost
theorem F220:FF 67 C220:=by
 refine fitX [(105,C214)] (by simp only [List.mem_cons,List.not_mem_nil,or_false]; rintro _ rfl <;> first|exact F214) [] (by simp) Tryz.f67 ⟨rfl,by decide +kernel,by decide +kernel⟩ (fun _ _ _ hk h b q=>hk _ (h b q)) ?_
 rintro ⟨a,b,c⟩ K ⟨⟨h1,h2,h5⟩,h6⟩ h
 refine ⟨Nat.le_of_ble_eq_true rfl,?_⟩
 dsimp only [enSt,stC] at h1 h2 h5 h6 ⊢
 repeat' (first|refine vz ?_|(conv=>whnf); first|with_reducible first|refine Sp.mk ?_ ?_|refine br_d (fun _=>?_) fun _=>?_|refine vM (fun _=>?_) fun _=>?_)
 refine ⟨a,?_,⟨h6⟩,?_⟩
 ·exact wq
 refine ⟨fun x q=>?_,fun q=>?_⟩
 ·obtain ⟨p,bs,rs⟩:=x
  have hi:isSt ⟨a,b,c⟩ ↔ (b.size≤1000∧0≤c∧c≤b.size):=⟨fun g=>g.2,fun g=>⟨⟨_,q⟩,g⟩⟩
  dsimp only [enPl,plC]
  repeat' (first|refine vz ?_|(conv=>whnf); first|with_reducible first|refine Sp.mk ?_ ?_|refine br_d (fun _=>?_) fun _=>?_|refine vM (fun _=>?_) fun _=>?_)
  ·exact h _ ⟨fun g=>hi.2 ⟨by omega,by omega,of_decide_eq_true g⟩,fun g=>decide_eq_true (hi.1 g).2.2⟩
  all_goals exact h _ ⟨(fun g=>by cases g),fun g=>by have:=hi.1 g; omega⟩
 ·have hi:¬ isSt ⟨a,b,c⟩:=fun g=>q g.1
  dsimp only [enPl,plC]
  repeat' (first|refine vz ?_|(conv=>whnf); first|with_reducible first|refine Sp.mk ?_ ?_|refine br_d (fun _=>?_) fun _=>?_|refine vM (fun _=>?_) fun _=>?_)
  exact h _ ⟨(fun g=>by cases g),fun g=>absurd g hi⟩
def C222:=C220
theorem F222:FF 64 C222:=by
 refine fitX [(65,C219),(74,C35)] (by simp only [List.mem_cons,List.not_mem_nil,or_false]; rintro _ (rfl|rfl) <;> first|exact F219|exact F35) [] (by simp) Tryz.f64 ⟨rfl,by decide +kernel,by decide +kernel⟩ (fun _ _ _ hk h b q=>hk _ (h b q)) ?_
 rintro ⟨a,b,c⟩ K ⟨⟨h1,h2,h5⟩,h6⟩ h
 refine ⟨Nat.le_of_ble_eq_true rfl,?_⟩
 dsimp only [enSt,stC] at h1 h2 h5 h6 ⊢
 repeat' (first|refine vz ?_|(conv=>whnf); first|with_reducible first|refine Sp.mk ?_ ?_|refine br_d (fun _=>?_) fun _=>?_|refine vM (fun _=>?_) fun _=>?_)
 refine ⟨a,?_,⟨h6⟩,?_⟩
 ·exact wq
 refine ⟨fun x q=>?_,fun q=>?_⟩
 ·obtain ⟨p,bs,rs⟩:=x
  have hi:isSt ⟨a,b,c⟩ ↔ (b.size≤1000∧0≤c∧c≤b.size):=⟨fun g=>g.2,fun g=>⟨⟨_,q⟩,g⟩⟩
  dsimp only [enPl,plC]
  repeat' (first|refine vz ?_|(conv=>whnf); first|with_reducible first|refine Sp.mk ?_ ?_|refine br_d (fun _=>?_) fun _=>?_|refine vM (fun _=>?_) fun _=>?_)
  ·refine ⟨(c,0,(b.size:Int)),?_,⟨trivial⟩,?_⟩
   ·exact wq
   dsimp only
   repeat' (first|refine vz ?_|(conv=>whnf); first|with_reducible first|refine Sp.mk ?_ ?_|refine br_d (fun _=>?_) fun _=>?_|refine vM (fun _=>?_) fun _=>?_)
   exact h _ ⟨fun g=>hi.2 ⟨by omega,of_decide_eq_true g⟩,fun g=>decide_eq_true (hi.1 g).2⟩
  ·exact h _ ⟨(fun g=>by cases g),fun g=>by have:=hi.1 g; omega⟩
 ·have hi:¬ isSt ⟨a,b,c⟩:=fun g=>q g.1
  dsimp only [enPl,plC]
  repeat' (first|refine vz ?_|(conv=>whnf); first|with_reducible first|refine Sp.mk ?_ ?_|refine br_d (fun _=>?_) fun _=>?_|refine vM (fun _=>?_) fun _=>?_)
  exact h _ ⟨(fun g=>by cases g),fun g=>absurd g hi⟩
end Go.Proofs.YtgdbhjmpkkbnnaaGreatDoor.Vc
end
section
/- Part YA: stores that break down, are made sure, and are mended. -/
namespace Go.Proofs.YtgdbhjmpkkbnnaaGreatDoor.Vc
open Go.Proofs
set_option maxRecDepth 10000
set_option maxHeartbeats 4000000
def storeP (s:Store):Prop:=storeI s∧s.saved.size<4294967281
end Go.Proofs.YtgdbhjmpkkbnnaaGreatDoor.Vc
end
section
/- Part YB: stores that are opened, acted at and saved: the plain law. -/
namespace Go.Proofs.YtgdbhjmpkkbnnaaGreatDoor.Vc
open Go.Proofs
set_option maxRecDepth 10000
set_option maxHeartbeats 4000000
open Classical in
noncomputable def plOf (s:ByteArray):Place:=if h:∃ x,isPt s x then Classical.choose h else default
theorem plOf_of {s:ByteArray} {x:Place} (h:isPt s x):plOf s=x:=by
 unfold plOf
 have hx:∃ x,isPt s x:=⟨x,h⟩
 rw [dif_pos hx]
 exact isPt_one (Classical.choose_spec hx) h
theorem plOf_is {s:Store} (h:isSt s):isPt s.saved (plOf s.saved):=by
 obtain ⟨x,hx⟩:=h.1
 rw [plOf_of hx]
 exact hx
noncomputable def opD (s:Store):Desk:=(runD ⟨plOf s.saved,[]⟩ (jr s.log)).1
theorem desk0_ok {x:Place} (h:placeOk x):deskOk ⟨x,[]⟩:=⟨h,(by decide:0≤8),fun _ q=>by cases q⟩
theorem opD_ok {s:Store} (h:isSt s):deskOk (opD s):=runD_ok (desk0_ok (plOf_is h).1) _
open Classical in
noncomputable def openS (s:Store):Option Desk:=if isSt s then some (opD s) else none
noncomputable def mended (s:Store):Store:=⟨s.saved,s.log.extract 0 (jn s.log),if (jn s.log:Int)<s.sure then (jn s.log:Int) else s.sure⟩
end Go.Proofs.YtgdbhjmpkkbnnaaGreatDoor.Vc
end
section
/- Part YC: stores that are opened, acted at and saved, by both sides. -/
namespace Go.Proofs.YtgdbhjmpkkbnnaaGreatDoor.Vc
open Go.Proofs
set_option maxRecDepth 10000
set_option maxHeartbeats 4000000
def C259:List AV→(AV→Prop)→Prop:=con (X:=ByteArray) (fun s=>[.str s]) (fun s=>s.size≤1048576) fun s K=>K (.tup [slD (jr s),.int .i64 (jn s:Nat)])
theorem F259:FF 106 C259:=by
 refine fitXE [(137,C265),(92,C258)] (by simp only [List.mem_cons,List.not_mem_nil,or_false]; rintro _ (rfl|rfl) <;> first|exact F265|exact F258) [] (by simp) Tryz.f106 ⟨rfl,by decide +kernel,by decide +kernel⟩ (by intro x K K2 hk h; (try dsimp only at h ⊢); intros; apply hk; first|exact h|(apply h <;> assumption)) ?_
 rintro s K hs h
 refine ⟨Nat.le_of_ble_eq_true rfl,?_⟩
 repeat' (first|refine vz ?_|(conv=>whnf); first|with_reducible first|refine Sp.mk ?_ ?_|refine br_d (fun _=>?_) fun _=>?_|refine vM (fun _=>?_) fun _=>?_)
 refine Lp.mk ⟨List Dd × Nat,fun x=>[(0,.str s),(4,.row 0 4 0 x.1.length),(5,.int .i64 x.2)],fun x=>[.row 4 x.1.length fun i=>encD (x.1.getD i default)],fun x=>jrI s x.1 x.2,fun x=>s.size-x.2,⟨([],0),jrI_0 s,⟨⟨[none],[],rfl,rfl,?_,?_⟩⟩⟩,?_⟩
 ·exact wq
 ·exact wq
 rintro ⟨l,n⟩ hI
 have i1:=hI.le
 dsimp only at i1 hI ⊢
 have hll:l.length≤n:=by rw [hI.nn]; exact jl_len l
 have hbye:(∀ x t,okDd x→s.data.toList.drop n≠lineL x ++ t)→jr s=l∧jn s=n:=hI.end
 have hes:(s.extract n s.size).size≤s.size:=by rw [ByteArray.size_extract]; omega
 repeat' (first|refine vz ?_|(conv=>whnf); first|with_reducible first|refine Sp.mk ?_ ?_|refine br_d (fun _=>?_) fun _=>?_|refine vM (fun _=>?_) fun _=>?_)
 refine ⟨(s.extract n s.size,10),?_,⟨by dsimp only; omega⟩,?_⟩
 ·exact wq
 refine ⟨fun p r q1 q2=>?_,fun q=>?_⟩
 ·dsimp only at q1 q2
  rw [ext_tail] at q2
  have hps:p.size≤s.size:=by
   have:=congrArg List.length q2
   rw [List.length_drop,List.length_append,Array.length_toList,Array.length_toList] at this
   show p.data.size≤s.data.size
   omega
  repeat' (first|refine vz ?_|(conv=>whnf); first|with_reducible first|refine Sp.mk ?_ ?_|refine br_d (fun _=>?_) fun _=>?_|refine vM (fun _=>?_) fun _=>?_)
  refine ⟨p,?_,⟨by omega⟩,?_⟩
  ·exact wq
  refine ⟨fun x hx=>?_,fun hx=>?_⟩
  ·have hI2:=hI.step q2 hx
   have hle2:=hI2.le
   obtain ⟨k,a,b,w⟩:=x
   dsimp only [ded,encD]
   repeat' (first|refine vz ?_|(conv=>whnf); first|with_reducible first|refine Sp.mk ?_ ?_|refine br_d (fun _=>?_) fun _=>?_|refine vM (fun _=>?_) fun _=>?_)
   refine ⟨(l ++ [⟨k,a,b,w⟩],n+(p.size+1)),hI2,by dsimp only; omega,?_⟩
   first|(refine ⟨⟨[some 3],[],rfl,rfl,?_,?_⟩⟩ <;> (repeat' ((conv=>whnf); first|with_reducible exact True.intro|exact vW|with_reducible refine And.intro ?_ ?_|exact Chk.mk ⟨rfl,by rw [List.length_append]; rfl⟩|exact Chk.mk (ext_push (enc:=encD) (d:=default) (l:=l) (x:=⟨k,a,b,w⟩) rfl))) <;> fail)|(refine ⟨⟨[some 2],[],rfl,rfl,?_,?_⟩⟩ <;> (repeat' ((conv=>whnf); first|with_reducible exact True.intro|exact vW|with_reducible refine And.intro ?_ ?_|exact Chk.mk ⟨rfl,by rw [List.length_append]; rfl⟩|exact Chk.mk (ext_push (enc:=encD) (d:=default) (l:=l) (x:=⟨k,a,b,w⟩) rfl))) <;> fail)
  ·obtain ⟨e1,e2⟩:=hbye (q2 ▸ stop_line q1 hx)
   rw [e1,e2] at h
   dsimp only [ded,encD]
   repeat' (first|refine vz ?_|(conv=>whnf); first|with_reducible first|refine Sp.mk ?_ ?_|refine br_d (fun _=>?_) fun _=>?_|refine vM (fun _=>?_) fun _=>?_)
   refine ⟨_,?_,h⟩
   repeat' ((conv=>whnf); first|with_reducible exact True.intro|exact vW|with_reducible refine And.intro ?_ ?_)
   all_goals exact Chk.mk ⟨rfl,fun i _=>by dsimp only; (try rw [Nat.zero_add]); try rfl⟩
 ·dsimp only at q
  rw [ext_tail] at q
  obtain ⟨e1,e2⟩:=hbye (stop_none q)
  rw [e1,e2] at h
  repeat' (first|refine vz ?_|(conv=>whnf); first|with_reducible first|refine Sp.mk ?_ ?_|refine br_d (fun _=>?_) fun _=>?_|refine vM (fun _=>?_) fun _=>?_)
  refine ⟨s.extract n s.size,?_,⟨by omega⟩,?_⟩
  ·exact wq
  refine ⟨fun x hx=>?_,fun hx=>?_⟩
  ·obtain ⟨k,a,b,w⟩:=x
   dsimp only [ded,encD]
   repeat' (first|refine vz ?_|(conv=>whnf); first|with_reducible first|refine Sp.mk ?_ ?_|refine br_d (fun _=>?_) fun _=>?_|refine vM (fun _=>?_) fun _=>?_)
   refine ⟨_,?_,h⟩
   repeat' ((conv=>whnf); first|with_reducible exact True.intro|exact vW|with_reducible refine And.intro ?_ ?_)
   all_goals exact Chk.mk ⟨rfl,fun i _=>by dsimp only; (try rw [Nat.zero_add]); try rfl⟩
  ·dsimp only [ded,encD]
   repeat' (first|refine vz ?_|(conv=>whnf); first|with_reducible first|refine Sp.mk ?_ ?_|refine br_d (fun _=>?_) fun _=>?_|refine vM (fun _=>?_) fun _=>?_)
   refine ⟨_,?_,h⟩
   repeat' ((conv=>whnf); first|with_reducible exact True.intro|exact vW|with_reducible refine And.intro ?_ ?_)
   all_goals exact Chk.mk ⟨rfl,fun i _=>by dsimp only; (try rw [Nat.zero_add]); try rfl⟩
theorem jr_ded {s:ByteArray} (h:s.size≤1048576):∀ a∈jr s,dedI a:=fun a ha=>by
 obtain ⟨h1,h2⟩:=jr_mem ha
 have hk:=okDd_kind h1
 have h3:=h1.a
 have h4:=h1.b
 exact ⟨⟨by omega,by omega⟩,⟨by omega,by omega⟩,⟨by omega,by omega⟩,by omega⟩
def C282:List AV→(AV→Prop)→Prop:=con (X:=Store) (fun s=>[enSt s]) storeP fun s K=>K (.tup [enDe ((openS s).getD default),.bool (openS s).isSome])
theorem openS_yes {s:Store} (h:isSt s):openS s=some (opD s):=if_pos h
theorem openS_no {s:Store} (h:¬ isSt s):openS s=none:=if_neg h
theorem isf {o:Bool} {p:Prop} (h:o=true ↔ p) (hp:¬ p):o=false:=by cases o with|false=>rfl|true=>exact absurd (h.1 rfl) hp
def C283:=C282
theorem F283:FF 33 C283:=by
 refine fitXE [(64,C222),(65,C219),(66,C246),(61,C257)] (by simp only [List.mem_cons,List.not_mem_nil,or_false]; rintro _ (rfl|rfl|rfl|rfl) <;> first|exact F222|exact F219|exact F246|exact F257) [] (by simp) Tryz.f33 ⟨rfl,by decide +kernel,by decide +kernel⟩ (by intro x K K2 hk h; (try dsimp only at h ⊢); intros; apply hk; first|exact h|(apply h <;> assumption)) ?_
 rintro ⟨a,b,c⟩ K hP h
 refine ⟨Nat.le_of_ble_eq_true rfl,?_⟩
 have hs:=hP.2
 dsimp only [enSt,stC] at hs ⊢
 repeat' (first|refine vz ?_|(conv=>whnf); first|with_reducible first|refine Sp.mk ?_ ?_|refine br_d (fun _=>?_) fun _=>?_|refine vM (fun _=>?_) fun _=>?_)
 refine ⟨⟨a,b,c⟩,?_,⟨hP⟩,?_⟩
 ·exact wq
 intro o ho
 by_cases hS:isSt ⟨a,b,c⟩
 ·obtain rfl:=ho.2 hS
  rw [openS_yes hS] at h
  have hl:=hS.2.1
  have hp:=plOf_is hS
  have hjl:=jr_len b
  have hjd:=jr_ded (s:=b) (by dsimp only at hl; omega)
  unfold opD at h
  dsimp only [Option.getD_some,Option.isSome_some] at h hl hp
  obtain ⟨x,hx⟩:∃ x,plOf a=x:=⟨_,rfl⟩
  rw [hx] at h hp
  repeat' (first|refine vz ?_|(conv=>whnf); first|with_reducible first|refine Sp.mk ?_ ?_|refine br_d (fun _=>?_) fun _=>?_|refine vM (fun _=>?_) fun _=>?_)
  refine ⟨a,?_,⟨hs⟩,?_⟩
  ·exact wq
  refine ⟨fun y q=>?_,fun q=>(q ⟨_,hp⟩).elim⟩
  obtain rfl:=isPt_one q hp
  have hO:=hp.1
  obtain ⟨p,bs,rs⟩:=y
  dsimp only [enPl,plC]
  repeat' (first|refine vz ?_|(conv=>whnf); first|with_reducible first|refine Sp.mk ?_ ?_|refine br_d (fun _=>?_) fun _=>?_|refine vM (fun _=>?_) fun _=>?_)
  refine ⟨b,?_,⟨by omega⟩,?_⟩
  ·exact wq
  repeat' (first|refine vz ?_|(conv=>whnf); first|with_reducible first|refine Sp.mk ?_ ?_|refine br_d (fun _=>?_) fun _=>?_|refine vM (fun _=>?_) fun _=>?_)
  refine ⟨⟨⟨⟨p,bs,rs⟩,[]⟩,jr b⟩,?_,⟨desk0_ok hO,hjd,by dsimp only; omega⟩,?_⟩
  ·exact wq
  dsimp only
  generalize runD ⟨⟨p,bs,rs⟩,[]⟩ (jr b)=r at h ⊢
  obtain ⟨⟨⟨ep,eb,er⟩,el⟩,n⟩:=r
  dsimp only [enDe,deC] at h ⊢
  repeat' (first|refine vz ?_|(conv=>whnf); first|with_reducible first|refine Sp.mk ?_ ?_|refine br_d (fun _=>?_) fun _=>?_|refine vM (fun _=>?_) fun _=>?_)
  refine ⟨_,?_,h⟩
  repeat' ((conv=>whnf); first|with_reducible exact True.intro|exact vW|with_reducible refine And.intro ?_ ?_)
 ·obtain rfl:=isf ho hS
  rw [openS_no hS] at h
  repeat' (first|refine vz ?_|(conv=>whnf); first|with_reducible first|refine Sp.mk ?_ ?_|refine br_d (fun _=>?_) fun _=>?_|refine vM (fun _=>?_) fun _=>?_)
  refine ⟨_,?_,h⟩
  repeat' ((conv=>whnf); first|with_reducible exact True.intro|exact vW|with_reducible refine And.intro ?_ ?_)
end Go.Proofs.YtgdbhjmpkkbnnaaGreatDoor.Vc
end
section
/- Part NE: stores that are opened, with nested memory of their own. -/
namespace Go.Proofs.YtgdbhjmpkkbnnaaGreatDoor.Vc
open Go.Proofs
set_option maxRecDepth 10000
set_option maxHeartbeats 4000000
def C281n:GC:=conG (X:=Store) (fun s=>[enSt s]) (fun _=>[]) (fun s=>isSt s∧s.saved.size<4294967281) fun s K=>K (deN (opD s)) (deO (opD s))
theorem F281n:GG 68 C281n:=by
 refine fitG [(105,C214),(106,C259)] (by simp only [List.mem_cons,List.not_mem_nil,or_false]; rintro _ (rfl|rfl) <;> first|exact F214|exact F259) [(62,C256n)] (by simp only [List.mem_cons,List.not_mem_nil,or_false]; rintro _ rfl <;> first|exact F256n) Tryz.f68 ⟨rfl,by decide +kernel,by decide +kernel⟩ (by intro x K K2 hk h; (try dsimp only at h ⊢); intros; apply hk; first|exact h|(apply h <;> assumption)) ?_
 rintro ⟨a,b,c⟩ K ⟨hS,hs⟩ h
 refine ⟨Nat.le_of_ble_eq_true rfl,?_⟩
 have hl:=hS.2.1
 have hp:=plOf_is hS
 have hjl:=jr_len b
 have hjd:=jr_ded (s:=b) (by dsimp only at hl; omega)
 unfold opD at h
 dsimp only [enSt,stC] at h hs hl hp ⊢
 obtain ⟨x,hx⟩:∃ x,plOf a=x:=⟨_,rfl⟩
 rw [hx] at h hp
 repeat' (first|refine vz ?_|(conv=>whnf); first|with_reducible first|refine Sp.mk ?_ ?_|refine br_d (fun _=>?_) fun _=>?_|refine vM (fun _=>?_) fun _=>?_)
 refine ⟨a,?_,⟨hs⟩,?_⟩
 ·exact wq
 refine ⟨fun y q=>?_,fun q=>(q ⟨_,hp⟩).elim⟩
 obtain rfl:=isPt_one q hp
 have hO:=hp.1
 obtain ⟨p,bs,rs⟩:=y
 dsimp only [enPl,plC]
 repeat' (first|refine vz ?_|(conv=>whnf); first|with_reducible first|refine Sp.mk ?_ ?_|refine br_d (fun _=>?_) fun _=>?_|refine vM (fun _=>?_) fun _=>?_)
 refine ⟨b,?_,⟨by omega⟩,?_⟩
 ·exact wq
 repeat' (first|refine vz ?_|(conv=>whnf); first|with_reducible first|refine Sp.mk ?_ ?_|refine br_d (fun _=>?_) fun _=>?_|refine vM (fun _=>?_) fun _=>?_)
 refine ⟨_,_,[],[],rfl,?_,?_,⟨⟨⟨p,bs,rs⟩,[]⟩,jr b⟩,rfl,rfl,⟨desk0_ok hO,hjd,by dsimp only; omega⟩,?_⟩
 ·exact wq
 ·exact wq
 dsimp only
 generalize runD ⟨⟨p,bs,rs⟩,[]⟩ (jr b)=r at h ⊢
 obtain ⟨⟨⟨ep,eb,er⟩,el⟩,n⟩:=r
 dsimp only [deN,deO,npO] at h ⊢
 repeat' (first|refine vz ?_|(conv=>whnf); first|with_reducible first|refine Sp.mk ?_ ?_|refine br_d (fun _=>?_) fun _=>?_|refine vM (fun _=>?_) fun _=>?_)
 first
  |(refine ⟨_,_,[some 1,some 2,some 3],[],rfl,rfl,?_,?_,h⟩ <;> (repeat' ((conv=>whnf); first|with_reducible exact True.intro|exact vW|with_reducible refine And.intro ?_ ?_)) <;> fail)
  |(refine ⟨_,_,[some 2,some 3,some 4],[],rfl,rfl,?_,?_,h⟩ <;> (repeat' ((conv=>whnf); first|with_reducible exact True.intro|exact vW|with_reducible refine And.intro ?_ ?_)) <;> fail)
  |(refine ⟨_,_,[some 3,some 4,some 5],[],rfl,rfl,?_,?_,h⟩ <;> (repeat' ((conv=>whnf); first|with_reducible exact True.intro|exact vW|with_reducible refine And.intro ?_ ?_)) <;> fail)
def C282n:GC:=conG (X:=Store) (fun s=>[enSt s]) (fun _=>[]) storeP fun s K=>K (.tup [deN ((openS s).getD default),.bool (openS s).isSome]) (deO ((openS s).getD default))
theorem F282n:GG 35 C282n:=by
 refine fitG [(67,C220)] (by simp only [List.mem_cons,List.not_mem_nil,or_false]; rintro _ rfl <;> first|exact F220) [(68,C281n)] (by simp only [List.mem_cons,List.not_mem_nil,or_false]; rintro _ rfl <;> first|exact F281n) Tryz.f35 ⟨rfl,by decide +kernel,by decide +kernel⟩ (by intro x K K2 hk h; (try dsimp only at h ⊢); intros; apply hk; first|exact h|(apply h <;> assumption)) ?_
 rintro ⟨a,b,c⟩ K hP h
 refine ⟨Nat.le_of_ble_eq_true rfl,?_⟩
 have hs:=hP.2
 dsimp only [enSt,stC] at hs ⊢
 repeat' (first|refine vz ?_|(conv=>whnf); first|with_reducible first|refine Sp.mk ?_ ?_|refine br_d (fun _=>?_) fun _=>?_|refine vM (fun _=>?_) fun _=>?_)
 refine ⟨⟨a,b,c⟩,?_,⟨hP⟩,?_⟩
 ·exact wq
 intro o ho
 by_cases hS:isSt ⟨a,b,c⟩
 ·obtain rfl:=ho.2 hS
  replace h:K (.tup [deN ((openS ⟨a,b,c⟩).getD default),.bool (openS ⟨a,b,c⟩).isSome]) (deO ((openS ⟨a,b,c⟩).getD default)):=h
  rw [openS_yes hS] at h
  repeat' (first|refine vz ?_|(conv=>whnf); first|with_reducible first|refine Sp.mk ?_ ?_|refine br_d (fun _=>?_) fun _=>?_|refine vM (fun _=>?_) fun _=>?_)
  refine ⟨_,_,[],[],rfl,?_,?_,⟨a,b,c⟩,rfl,rfl,⟨hS,hs⟩,?_⟩
  ·exact wq
  ·exact wq
  dsimp only [Option.getD_some,Option.isSome_some] at h ⊢
  generalize opD ⟨a,b,c⟩=e at h ⊢
  obtain ⟨⟨ep,eb,er⟩,el⟩:=e
  dsimp only [deN,deO,npO] at h ⊢
  repeat' (first|refine vz ?_|(conv=>whnf); first|with_reducible first|refine Sp.mk ?_ ?_|refine br_d (fun _=>?_) fun _=>?_|refine vM (fun _=>?_) fun _=>?_)
  first
   |(refine ⟨_,_,[some 1,some 2,some 3],[],rfl,rfl,?_,?_,h⟩ <;> (repeat' ((conv=>whnf); first|with_reducible exact True.intro|exact vW|with_reducible refine And.intro ?_ ?_)) <;> fail)
   |(refine ⟨_,_,[some 2,some 3,some 4],[],rfl,rfl,?_,?_,h⟩ <;> (repeat' ((conv=>whnf); first|with_reducible exact True.intro|exact vW|with_reducible refine And.intro ?_ ?_)) <;> fail)
   |(refine ⟨_,_,[some 3,some 4,some 5],[],rfl,rfl,?_,?_,h⟩ <;> (repeat' ((conv=>whnf); first|with_reducible exact True.intro|exact vW|with_reducible refine And.intro ?_ ?_)) <;> fail)
 ·obtain rfl:=isf ho hS
  replace h:K (.tup [deN ((openS ⟨a,b,c⟩).getD default),.bool (openS ⟨a,b,c⟩).isSome]) (deO ((openS ⟨a,b,c⟩).getD default)):=h
  rw [openS_no hS] at h
  repeat' (first|refine vz ?_|(conv=>whnf); first|with_reducible first|refine Sp.mk ?_ ?_|refine br_d (fun _=>?_) fun _=>?_|refine vM (fun _=>?_) fun _=>?_)
  refine ⟨_,_,[none,none,none],[],rfl,rfl,?_,?_,h⟩
  ·exact wq
  ·exact wq
end Go.Proofs.YtgdbhjmpkkbnnaaGreatDoor.Vc
end
section
/- Part NM: the law that opened stores share no memory. -/
namespace Go.Proofs.YtgdbhjmpkkbnnaaGreatDoor.Vc
open Go.Proofs
set_option maxRecDepth 100000
set_option maxHeartbeats 8000000
theorem openS_R (s:Store):okAn ((openS s).getD default):=by
 by_cases h:isSt s
 ·rw [openS_yes h]
  exact .inl (opD_ok h)
 ·rw [openS_no h]
  exact .inr rfl
def C369:List AV→(AV→Prop)→Prop:=con (X:=Store) (fun x=>[enSt x]) storeI fun _ K=>K (.bool true)
theorem F369:FF 7 C369:=by
 refine fitX [(32,C223),(34,C224),(33,C283),(12,C141),(14,C150n)] (by simp only [List.mem_cons,List.not_mem_nil,or_false]; rintro _ (rfl|rfl|rfl|rfl|rfl) <;> first|exact F223|exact F224|exact F283|exact F141|exact F150n) [(35,C282n),(13,C149n)] (by simp only [List.mem_cons,List.not_mem_nil,or_false]; rintro _ (rfl|rfl) <;> first|exact F282n|exact F149n) Tryz.f7 ⟨rfl,by decide +kernel,by decide +kernel⟩ (fun _ _ _ hk h=>hk _ h) ?_
 rintro ⟨a,b,c⟩ K hI h
 refine ⟨Nat.le_of_ble_eq_true rfl,?_⟩
 dsimp only [enSt,stC] at hI ⊢
 repeat' (first|refine vz ?_|(conv=>whnf); first|with_reducible first|refine Sp.mk ?_ ?_|refine br_d (fun _=>?_) fun _=>?_|refine vM (fun _=>?_) fun _=>?_)
 refine ⟨(⟨a,b,c⟩,1048576),?_,⟨hI,by dsimp only; omega,by dsimp only; omega⟩,?_⟩
 ·exact wq
 intro v v1 v2 v3
 dsimp only at v2 v3
 repeat' (first|refine vz ?_|(conv=>whnf); first|with_reducible first|refine Sp.mk ?_ ?_|refine br_d (fun _=>?_) fun _=>?_|refine vM (fun _=>?_) fun _=>?_)
 ·exact h
 rename_i hv
 have hs:=v3 (by omega)
 have hp:storeP ⟨a,b,c⟩:=⟨hI,by dsimp only; omega⟩
 have hR:=openS_R ⟨a,b,c⟩
 obtain ⟨e,he⟩:∃ e,(openS ⟨a,b,c⟩).getD default=e:=⟨_,rfl⟩
 obtain ⟨o,ho⟩:∃ o,(openS ⟨a,b,c⟩).isSome=o:=⟨_,rfl⟩
 rw [he] at hR
 have e1:=okAn_len hR
 have e2:=okAn_mds hR
 have e3:=okAn_mkM hR
 obtain ⟨⟨ep,eb,er⟩,el⟩:=e
 have hbb:(o == o)=true:=beq_self_eq_true _
 refine ⟨⟨a,b,c⟩,?_,⟨trivial⟩,?_⟩
 ·exact wq
 dsimp only [enSt,stC]
 repeat' (first|refine vz ?_|(conv=>whnf); first|with_reducible first|refine Sp.mk ?_ ?_|refine br_d (fun _=>?_) fun _=>?_|refine vM (fun _=>?_) fun _=>?_)
 refine ⟨⟨a,b,c⟩,?_,⟨hp⟩,?_⟩
 ·exact wq
 dsimp only
 rw [he,ho]
 dsimp only [enDe,deC,deN,deO,npO]
 repeat' (first|refine vz ?_|(conv=>whnf); first|with_reducible first|refine Sp.mk ?_ ?_|refine br_d (fun _=>?_) fun _=>?_|refine vM (fun _=>?_) fun _=>?_)
 refine ⟨⟨a,b,c⟩,?_,⟨trivial⟩,?_⟩
 ·exact wq
 dsimp only [enSt,stC]
 repeat' (first|refine vz ?_|(conv=>whnf); first|with_reducible first|refine Sp.mk ?_ ?_|refine br_d (fun _=>?_) fun _=>?_|refine vM (fun _=>?_) fun _=>?_)
 refine ⟨_,_,[],[],rfl,?_,?_,⟨a,b,c⟩,rfl,rfl,⟨hp⟩,?_⟩
 ·exact wq
 ·exact wq
 dsimp only
 rw [he,ho]
 dsimp only [enDe,deC,deN,deO,npO]
 repeat' (first|refine vz ?_|(conv=>whnf); first|with_reducible first|refine Sp.mk ?_ ?_|refine br_d (fun _=>?_) fun _=>?_|refine vM (fun _=>?_) fun _=>?_)
 refine ⟨⟨⟨ep,eb,er⟩,el⟩,?_,⟨e1⟩,?_⟩
 ·repeat' ((conv=>whnf); first|with_reducible exact True.intro|exact vW|with_reducible refine And.intro ?_ ?_)
  all_goals exact Chk.mk ⟨rfl,fun i _=>by dsimp only; rw [Nat.zero_add]⟩
 repeat' (first|refine vz ?_|(conv=>whnf); first|with_reducible first|refine Sp.mk ?_ ?_|refine br_d (fun _=>?_) fun _=>?_|refine vM (fun _=>?_) fun _=>?_)
 refine ⟨_,_,[2,3,4],[],rfl,?_,?_,⟨⟨⟨ep,eb,er⟩,el⟩,1⟩,rfl,rfl,⟨e2⟩,?_⟩
 ·exact wq
 ·exact wq
 dsimp only
 rw [deM_eq]
 dsimp only [deM]
 repeat' (first|refine vz ?_|(conv=>whnf); first|with_reducible first|refine Sp.mk ?_ ?_|refine br_d (fun _=>?_) fun _=>?_|refine vM (fun _=>?_) fun _=>?_)
 refine ⟨⟨⟨⟨ep,eb,er⟩,el⟩,1⟩,?_,⟨e2⟩,?_⟩
 ·repeat' ((conv=>whnf); first|with_reducible exact True.intro|exact vW|with_reducible refine And.intro ?_ ?_)
  all_goals first|exact Chk.mk ⟨(mksI_len _ _).symm,fun i _=>by dsimp only; rw [Nat.zero_add]; rfl⟩|exact Chk.mk ⟨(mksS_len _ _).symm,fun i _=>by dsimp only; rw [Nat.zero_add]; rfl⟩|exact Chk.mk ⟨(mkPs_len _ _).symm,fun i _=>by dsimp only; rw [Nat.zero_add]; rfl⟩
 dsimp only
 repeat' (first|refine vz ?_|(conv=>whnf); first|with_reducible first|refine Sp.mk ?_ ?_|refine br_d (fun _=>?_) fun _=>?_|refine vM (fun _=>?_) fun _=>?_)
 refine ⟨⟨a,b,c⟩,?_,⟨trivial⟩,?_⟩
 ·exact wq
 dsimp only [enSt,stC]
 repeat' (first|refine vz ?_|(conv=>whnf); first|with_reducible first|refine Sp.mk ?_ ?_|refine br_d (fun _=>?_) fun _=>?_|refine vM (fun _=>?_) fun _=>?_)
 refine ⟨_,_,[],[],rfl,?_,?_,⟨a,b,c⟩,rfl,rfl,⟨hp⟩,?_⟩
 ·exact wq
 ·exact wq
 dsimp only
 rw [he,ho]
 dsimp only [enDe,deC,deN,deO,npO]
 repeat' (first|refine vz ?_|(conv=>whnf); first|with_reducible first|refine Sp.mk ?_ ?_|refine br_d (fun _=>?_) fun _=>?_|refine vM (fun _=>?_) fun _=>?_)
 refine ⟨⟨⟨ep,eb,er⟩,el⟩,?_,⟨e1⟩,?_⟩
 ·repeat' ((conv=>whnf); first|with_reducible exact True.intro|exact vW|with_reducible refine And.intro ?_ ?_)
  all_goals exact Chk.mk ⟨rfl,fun i _=>by dsimp only; rw [Nat.zero_add]⟩
 repeat' (first|refine vz ?_|(conv=>whnf); first|with_reducible first|refine Sp.mk ?_ ?_|refine br_d (fun _=>?_) fun _=>?_|refine vM (fun _=>?_) fun _=>?_)
 refine ⟨⟨⟨⟨ep,eb,er⟩,el⟩,1⟩,?_,⟨e2⟩,?_⟩
 ·repeat' ((conv=>whnf); first|with_reducible exact True.intro|exact vW|with_reducible refine And.intro ?_ ?_)
  all_goals first|exact Chk.mk ⟨(mksI_len _ _).symm,fun i _=>by dsimp only; rw [Nat.zero_add]; rfl⟩|exact Chk.mk ⟨(mksS_len _ _).symm,fun i _=>by dsimp only; rw [Nat.zero_add]; rfl⟩|exact Chk.mk ⟨(mkPs_len _ _).symm,fun i _=>by dsimp only; rw [Nat.zero_add]; rfl⟩
 dsimp only
 repeat' (first|refine vz ?_|(conv=>whnf); first|with_reducible first|refine Sp.mk ?_ ?_|refine br_d (fun _=>?_) fun _=>?_|refine vM (fun _=>?_) fun _=>?_)
 exact h
end Go.Proofs.YtgdbhjmpkkbnnaaGreatDoor.Vc
end
section
/- Part ZD: pivots in an order. -/
namespace Go.Proofs.YtgdbhjmpkkbnnaaGreatDoor.Vc
open Go.Proofs
set_option maxRecDepth 10000
set_option maxHeartbeats 4000000
def has (c w:Int):Bool:=decide ((shrv .i64 c w).tmod 2=1)
def add (c w:Int):Int:=bitop .i64 .or c (1*2 ^ min w.toNat IntKind.i64.bits)
theorem add_small:∀ c,c<64→∀ w,w<6→0≤add (c:Nat) (w:Nat)∧add (c:Nat) (w:Nat)<64:=by decide +kernel
theorem add_lt {c w:Int} (h1:0≤c) (h2:c<64) (h3:0≤w) (h4:w<6):0≤add c w∧add c w<64:=by
 have:=add_small c.toNat (by omega) w.toNat (by omega)
 rwa [Int.toNat_of_nonneg h1,Int.toNat_of_nonneg h3] at this
theorem wsh_small:∀ w,w<6→IntKind.i64.wrap (1*2 ^ min (w:Nat) IntKind.i64.bits)=1*2 ^ min (w:Nat) IntKind.i64.bits:=by decide +kernel
theorem wshw {w:Int} (h3:0≤w) (h4:w<6):IntKind.i64.wrap (1*2 ^ min w.toNat IntKind.i64.bits)=1*2 ^ min w.toNat IntKind.i64.bits:=wsh_small w.toNat (by omega)
section
variable {p c:Int} {l:List Int}
end
end Go.Proofs.YtgdbhjmpkkbnnaaGreatDoor.Vc
end
section
/- Part ZE: pivots in an order, by the reference. -/
namespace Go.Proofs.YtgdbhjmpkkbnnaaGreatDoor.Vc
open Go.Proofs
set_option maxRecDepth 10000
set_option maxHeartbeats 4000000
end Go.Proofs.YtgdbhjmpkkbnnaaGreatDoor.Vc
end
section
/- Part ZF: the laws' copies and comparisons. -/
namespace Go.Proofs.YtgdbhjmpkkbnnaaGreatDoor.Vc
open Go.Proofs
set_option maxRecDepth 10000
set_option maxHeartbeats 4000000
/-! ### Comparisons -/
end Go.Proofs.YtgdbhjmpkkbnnaaGreatDoor.Vc
end
section
/- Part ZJ: swings. -/
namespace Go.Proofs.YtgdbhjmpkkbnnaaGreatDoor.Vc
open Go.Proofs
set_option maxRecDepth 10000
set_option maxHeartbeats 4000000
def swing (bs:List Int) (t:List Mark) (c w:Int):Bool:=!has c w && !says bs c t && says bs (add c w) t
structure Sw where
 p:Int
 bs:List Int
 t:List Mark
 c:Int
 w:Int
def swOk (x:Sw):Prop:=sayOk ⟨x.p,x.bs,x.t,x.c⟩∧x.t.length≤9∧0≤x.w∧x.w<6
theorem tmod_has {c w:Int} (h1:0≤c) (h2:c<64) (h3:0≤w) (h4:w<6):(shrv .i64 c w).tmod 2=0 ↔ has c w=false:=by
 have key:∀ c,c<64→∀ w,w<6→((shrv .i64 (c:Nat) (w:Nat)).tmod 2=0 ↔ ¬ (shrv .i64 (c:Nat) (w:Nat)).tmod 2=1):=by decide +kernel
 have:=key c.toNat (by omega) w.toNat (by omega)
 rw [Int.toNat_of_nonneg h1,Int.toNat_of_nonneg h3] at this
 unfold has
 rw [decide_eq_false_iff_not]
 exact this
theorem and0_has {c w:Int} (h1:0≤c) (h2:c<64) (h3:0≤w) (h4:w<6):bitop .i64 .and (shrv .i64 c w) 1=0 ↔ has c w=false:=by
 have key:∀ c,c<64→∀ w,w<6→(bitop .i64 .and (shrv .i64 (c:Nat) (w:Nat)) 1=0 ↔ ¬ (shrv .i64 (c:Nat) (w:Nat)).tmod 2=1):=by decide +kernel
 have:=key c.toNat (by omega) w.toNat (by omega)
 rw [Int.toNat_of_nonneg h1,Int.toNat_of_nonneg h3] at this
 unfold has
 rw [decide_eq_false_iff_not]
 exact this
def C44:List AV→(AV→Prop)→Prop:=con (X:=Sw) (fun x=>[house x.p x.bs,slM x.t,.int .i64 x.c,.int .i64 x.w]) swOk fun x K=>K (.bool (swing x.bs x.t x.c x.w))
theorem F44:FF 115 C44:=by
 refine fitE [(111,C36)] (by simp only [List.mem_cons,List.not_mem_nil,or_false]; rintro _ rfl <;> first|exact F36) Tryz.f115 ⟨rfl,by decide +kernel,by decide +kernel⟩ (fun _ _ _ hk h=>hk _ h) ?_
 rintro ⟨p,bs,t,c,w⟩ K ⟨h1,h2,h3,h4⟩ h
 refine ⟨Nat.le_of_ble_eq_true rfl,?_⟩
 dsimp only at h h1 h2 h3 h4 ⊢
 have hc:=h1.2.2.2
 have ga:=add_lt hc.1 hc.2 h3 h4
 have h1':sayOk ⟨p,bs,t,add c w⟩:=⟨h1.1,h1.2.1,h1.2.2.1,ga⟩
 repeat' (first|refine vz ?_|(conv=>whnf); first|with_reducible first|refine Sp.mk ?_ ?_|refine br_d (fun _=>?_) fun _=>?_|refine vM (fun _=>?_) fun _=>?_)
 refine Dr.mk ⟨(.rd 0 (.rd 1 (.rd 2 (.rd 3 (.rd 4 (.rd 5 (.rd 6 (.rd 7 (.rd 8 (.ef 9 (.rd 10 (.rd 11 (.rd 12 (.rd 13 (.rd 14 (.rd 15 (.rd 16 (.rd 17 (.rd 18 (.ef 19 (.rd 20 (.rd 21 .dn)) .no)))))))))) .no)))))))))),by decide +kernel,?_⟩
 repeat' (first|refine vz ?_|(conv=>whnf); first|with_reducible refine Wr.ex (wshw (by omega) (by omega)) ?_|with_reducible first|refine Sp.mk ?_ ?_|refine br_d (fun _=>?_) fun _=>?_|refine vM (fun _=>?_) fun _=>?_)
 ·rename_i g
  have e:=(tmod_has hc.1 hc.2 h3 h4).1 g
  unfold swing at h
  rw [e,Bool.not_false,Bool.true_and] at h
  refine ⟨⟨p,bs,t,c⟩,?_,⟨h1⟩,?_⟩
  ·exact wq
  dsimp only
  repeat' (first|refine vz ?_|(conv=>whnf); first|with_reducible refine Wr.ex (wshw (by omega) (by omega)) ?_|with_reducible first|refine Sp.mk ?_ ?_|refine br_d (fun _=>?_) fun _=>?_|refine vM (fun _=>?_) fun _=>?_)
  ·rename_i hv
   rw [hv,Bool.not_true,Bool.false_and] at h
   exact h
  ·rename_i hv
   rw [hv,Bool.not_false,Bool.true_and] at h
   refine ⟨⟨p,bs,t,add c w⟩,?_,⟨h1'⟩,?_⟩
   ·exact wq
   dsimp only
   repeat' (first|refine vz ?_|(conv=>whnf); first|with_reducible first|refine Sp.mk ?_ ?_|refine br_d (fun _=>?_) fun _=>?_|refine vM (fun _=>?_) fun _=>?_)
   exact h
 ·rename_i g
  have e:has c w=true:=by
   cases e:has c w with
   |true=>rfl
   |false=>exact absurd ((tmod_has hc.1 hc.2 h3 h4).2 e) g
  unfold swing at h
  rw [e,Bool.not_true,Bool.false_and,Bool.false_and] at h
  exact h
def swl (bs:List Int) (t:List Mark) (w:Int):Nat→List Int
 |0=>[]
 |k+1=>if swing bs t k w then swl bs t w k ++ [(k:Int)] else swl bs t w k
theorem swl_le (bs:List Int) (t:List Mark) (w:Int):∀ k,(swl bs t w k).length≤k
 |0=>Nat.le_refl _
 |k+1=>by
  have:=swl_le bs t w k
  unfold swl
  split
  ·simp; omega
  ·omega
structure Sx where
 p:Int
 bs:List Int
 t:List Mark
 w:Int
def sxOk (x:Sx):Prop:=people x.p∧(∀ c,0≤c→c<64→sayOk ⟨x.p,x.bs,x.t,c⟩)∧x.t.length≤9∧0≤x.w∧x.w<6
def C43:List AV→(AV→Prop)→Prop:=con (X:=Sx) (fun x=>[house x.p x.bs,slM x.t,.int .i64 x.w]) sxOk fun x K=>K (slI (swl x.bs x.t x.w (pw x.p).toNat))
theorem app_ext {l:List Int} {c:Int} {g:Nat→List AV} (hg:g 0=encI c):(l ++ [c]).length=l.length+1∧∀ j,j<(l ++ [c]).length→encI ((l ++ [c]).getD j 0)=appF l.length (fun j=>encI (l.getD j 0)) g j:=by
 refine ⟨by simp,fun j hj=>?_⟩
 simp only [List.length_append,List.length_cons,List.length_nil] at hj
 unfold appF
 rw [List.getD_eq_getElem?_getD,List.getElem?_append]
 cases hb:Nat.blt j l.length with
 |true =>
  have h1:j<l.length:=Nat.le_of_ble_eq_true hb
  rw [if_pos h1,← List.getD_eq_getElem?_getD]
  rfl
 |false =>
  have:¬ j<l.length:=fun h=>by
   have:Nat.blt j l.length=true:=Nat.ble_eq_true_of_le h
   rw [this] at hb; cases hb
  have:j=l.length:=by omega
  subst this
  rw [if_neg (by omega)]
  simp [hg]
theorem F43:FF 179 C43:=by
 refine fitE [(163,C39)] (by simp only [List.mem_cons,List.not_mem_nil,or_false]; rintro _ rfl <;> first|exact F39) Tryz.f179 ⟨rfl,by decide +kernel,by decide +kernel⟩ (fun _ _ _ hk h=>hk _ h) ?_
 rintro ⟨p,bs,t,w⟩ K ⟨h1,h2,h3,h4,h5⟩ h
 refine ⟨Nat.le_of_ble_eq_true rfl,?_⟩
 dsimp only at h h1 h2 h3 h4 h5 ⊢
 have hp:=pw_le h1
 repeat' (first|refine vz ?_|(conv=>whnf); first|with_reducible refine Wr.ex (wsh h1) ?_|with_reducible first|refine Sp.mk ?_ ?_|refine br_d (fun _=>?_) fun _=>?_|refine vM (fun _=>?_) fun _=>?_)
 refine Lp.mk ⟨Nat,fun i=>[(1,slM t),(2,.int .i64 w),(3,.ptr 0 0),(6,.nils),(7,.row 1 1 0 (swl bs t w i).length),(12,.int .i64 (pw p)),(13,.int .i64 i)],
  fun i=>[.box [.int .i64 p,slI bs],.row 1 (swl bs t w i).length fun j=>encI ((swl bs t w i).getD j 0)],fun i=>i≤(pw p).toNat,fun i=>(pw p).toNat-i,⟨0,Nat.zero_le _,⟨⟨[some 0,none],[],rfl,rfl,?_,?_⟩⟩⟩,?_⟩
 ·repeat' ((conv=>whnf); first|with_reducible exact True.intro|exact vW|with_reducible refine And.intro ?_ ?_)
  all_goals exact Chk.mk (pw_sh h1).symm
 ·exact wq
 intro i i1
 dsimp only
 have hll:=swl_le bs t w i
 repeat' (first|refine vz ?_|(conv=>whnf); first|with_reducible first|refine Sp.mk ?_ ?_|refine br_d (fun _=>?_) fun _=>?_|refine vM (fun _=>?_) fun _=>?_)
 ·rename_i hi
  have hi6:(i:Int)<64:=by omega
  have hi0:(0:Int)≤i:=by omega
  have ga:=add_lt hi0 hi6 h4 h5
  refine Dr.mk ⟨(.rd 0 (.rd 1 (.rd 2 (.rd 3 (.rd 4 (.rd 5 (.rd 6 (.rd 7 (.rd 8 (.ef 9 (.rd 10 (.rd 11 (.rd 12 (.rd 13 (.rd 14 (.rd 15 (.rd 16 (.rd 17 (.rd 18 (.ef 19 (.rd 20 .dn) .no)))))))))) .no)))))))))),by decide +kernel,?_⟩
  repeat' (first|refine vz ?_|(conv=>whnf); first|with_reducible refine Wr.ex (wshw (by omega) (by omega)) ?_|with_reducible first|refine Sp.mk ?_ ?_|refine br_d (fun _=>?_) fun _=>?_|refine vM (fun _=>?_) fun _=>?_)
  ·rename_i g
   have e:=(and0_has hi0 hi6 h4 h5).1 g
   refine ⟨⟨p,bs,t,i⟩,?_,⟨h2 _ hi0 hi6,h3⟩,?_⟩
   ·exact wq
   dsimp only
   repeat' (first|refine vz ?_|(conv=>whnf); first|with_reducible refine Wr.ex (wshw (by omega) (by omega)) ?_|with_reducible first|refine Sp.mk ?_ ?_|refine br_d (fun _=>?_) fun _=>?_|refine vM (fun _=>?_) fun _=>?_)
   ·rename_i hv
    have hn:swing bs t i w=false:=by unfold swing; rw [e,hv]; rfl
    refine ⟨i+1,by show i+1≤(pw p).toNat; omega,by show (pw p).toNat-(i+1)<(pw p).toNat-i; omega,⟨⟨[some 0,some 1],[],rfl,rfl,?_,?_⟩⟩⟩
    ·repeat' ((conv=>whnf); first|with_reducible exact True.intro|exact vW|with_reducible refine And.intro ?_ ?_)
     all_goals exact Chk.mk ⟨rfl,by rw [swl,if_neg (by rw [hn]; exact Bool.false_ne_true)]⟩
    ·repeat' ((conv=>whnf); first|with_reducible exact True.intro|exact vW|with_reducible refine And.intro ?_ ?_)
     all_goals exact Chk.mk (by rw [swl,if_neg (by rw [hn]; exact Bool.false_ne_true)]; exact ⟨rfl,fun _ _=>rfl⟩)
   ·rename_i hv
    refine ⟨⟨p,bs,t,add i w⟩,?_,⟨h2 _ ga.1 ga.2,h3⟩,?_⟩
    ·exact wq
    dsimp only
    repeat' (first|refine vz ?_|(conv=>whnf); first|with_reducible first|refine Sp.mk ?_ ?_|refine br_d (fun _=>?_) fun _=>?_|refine vM (fun _=>?_) fun _=>?_)
    ·rename_i hv2
     have hn:swing bs t i w=true:=by unfold swing; rw [e,hv,hv2]; rfl
     refine ⟨i+1,by show i+1≤(pw p).toNat; omega,by show (pw p).toNat-(i+1)<(pw p).toNat-i; omega,⟨⟨[some 0,some 3],[],rfl,rfl,?_,?_⟩⟩⟩
     ·repeat' ((conv=>whnf); first|with_reducible exact True.intro|exact vW|with_reducible refine And.intro ?_ ?_)
      all_goals exact Chk.mk ⟨rfl,by rw [swl,if_pos hn]; simp⟩
     ·repeat' ((conv=>whnf); first|with_reducible exact True.intro|exact vW|with_reducible refine And.intro ?_ ?_)
      all_goals exact Chk.mk (by rw [swl,if_pos hn]; exact app_ext rfl)
    ·rename_i hv2
     have hn:swing bs t i w=false:=by unfold swing; rw [e,hv,hv2]; rfl
     refine ⟨i+1,by show i+1≤(pw p).toNat; omega,by show (pw p).toNat-(i+1)<(pw p).toNat-i; omega,⟨⟨[some 0,some 1],[],rfl,rfl,?_,?_⟩⟩⟩
     ·repeat' ((conv=>whnf); first|with_reducible exact True.intro|exact vW|with_reducible refine And.intro ?_ ?_)
      all_goals exact Chk.mk ⟨rfl,by rw [swl,if_neg (by rw [hn]; exact Bool.false_ne_true)]⟩
     ·repeat' ((conv=>whnf); first|with_reducible exact True.intro|exact vW|with_reducible refine And.intro ?_ ?_)
      all_goals exact Chk.mk (by rw [swl,if_neg (by rw [hn]; exact Bool.false_ne_true)]; exact ⟨rfl,fun _ _=>rfl⟩)
  ·rename_i g
   have e:has i w=true:=by
    cases e:has i w with
    |true=>rfl
    |false=>exact absurd ((and0_has hi0 hi6 h4 h5).2 e) g
   have hn:swing bs t i w=false:=by unfold swing; rw [e]; rfl
   refine ⟨i+1,by show i+1≤(pw p).toNat; omega,by show (pw p).toNat-(i+1)<(pw p).toNat-i; omega,⟨⟨[some 0,some 1],[],rfl,rfl,?_,?_⟩⟩⟩
   ·repeat' ((conv=>whnf); first|with_reducible exact True.intro|exact vW|with_reducible refine And.intro ?_ ?_)
    all_goals exact Chk.mk ⟨rfl,by rw [swl,if_neg (by rw [hn]; exact Bool.false_ne_true)]⟩
   ·repeat' ((conv=>whnf); first|with_reducible exact True.intro|exact vW|with_reducible refine And.intro ?_ ?_)
    all_goals exact Chk.mk (by rw [swl,if_neg (by rw [hn]; exact Bool.false_ne_true)]; exact ⟨rfl,fun _ _=>rfl⟩)
 ·have e:i=(pw p).toNat:=by omega
  subst e
  refine Eq.mp (congrArg (fun z=>K (AV.sl 1 _ z)) ?_) h
  funext j
  show _=encI ((swl bs t w (pw p).toNat).getD (0+j) 0)
  rw [Nat.zero_add]
end Go.Proofs.YtgdbhjmpkkbnnaaGreatDoor.Vc
end
section
/- Part ZK: orders. -/
namespace Go.Proofs.YtgdbhjmpkkbnnaaGreatDoor.Vc
open Go.Proofs
set_option maxRecDepth 10000
set_option maxHeartbeats 4000000
def fac:Nat→Int
 |0=>1
 |k+1=>fac k*(k+1)
theorem fac_le:∀ k,k<7→1≤fac k∧fac k≤720:=by decide +kernel
def C49:List AV→(AV→Prop)→Prop:=con (X:=Int) (fun n=>[.int .i64 n]) (fun n=>-64≤n∧n≤6) fun n K=>K (.int .i64 (fac n.toNat))
theorem F49:FF 180 C49:=by
 refine fitE [] (by simp) Tryz.f180 ⟨rfl,by decide +kernel,by decide +kernel⟩ (fun _ _ _ hk h=>hk _ h) ?_
 rintro n K ⟨h1,h2⟩ h
 refine ⟨Nat.le_of_ble_eq_true rfl,?_⟩
 repeat' (first|refine vz ?_|(conv=>whnf); first|with_reducible first|refine Sp.mk ?_ ?_|refine br_d (fun _=>?_) fun _=>?_|refine vM (fun _=>?_) fun _=>?_)
 refine Lp.mk ⟨Nat,fun i=>[(0,.int .i64 n),(3,.int .i64 (fac (i+1))),(4,.int .i64 (i+2))],fun _=>[],fun i=>i=0∨(i:Int)+1≤n,fun i=>7-i,⟨0,.inl rfl,⟨⟨[],[],rfl,rfl,?_,?_⟩⟩⟩,?_⟩
 ·exact wq
 ·exact wq
 intro i i1
 have hf:i+1<7:=by omega
 have hb:=fac_le (i+1) hf
 have hm:fac (i+1)*((i:Int)+2)=fac (i+2):=by
  rw [show ((i:Int)+2)=(((i+1:Nat):Int)+1) by omega]
  rfl
 dsimp only
 repeat' ((conv=>whnf); first|((with_reducible refine Wr.ex (wi64 ?_ ?_) ?_); (focus (have:=fac_le (i+2) (by omega); rw [hm]; omega)); (focus (have:=fac_le (i+2) (by omega); rw [hm]; omega)))|refine vA ?_|with_reducible first|refine v8 ?_|refine Ch.l ?_|refine Sp.mk ?_ ?_|refine vS ?_|refine vR ?_|refine vB ?_|refine br_nt ?_|refine br_tt ?_|refine br_ff ?_|refine vP ?_|refine vQ ?_|refine vT ?_|refine vF ?_|refine br_and ?_|refine br_or ?_|refine br_d (fun _=>?_) fun _=>?_|refine vM (fun _=>?_) fun _=>?_)
 ·refine ⟨i+1,.inr (by omega),by show 7-(i+1)<7-i; omega,⟨⟨[],[],rfl,rfl,?_,?_⟩⟩⟩
  ·repeat' ((conv=>whnf); first|with_reducible exact True.intro|exact vW|with_reducible refine And.intro ?_ ?_)
   all_goals first|exact Chk.mk hm|exact Chk.mk hm.symm|exact Chk.mk (by omega)
  ·exact wq
 ·have e:fac (i+1)=fac n.toNat:=by
   rcases i1 with rfl|i1
   ·rcases Int.lt_or_le n 1 with hn|hn
    ·rw [show n.toNat=0 by omega]; rfl
    ·rw [show n.toNat=1 by omega]
   ·rw [show n.toNat=i+1 by omega]
  rw [e]
  exact h
def C47:=C49
theorem F47:FF 116 C47:=by
 refine fitE [] (by simp) Tryz.f116 ⟨rfl,by decide +kernel,by decide +kernel⟩ (fun _ _ _ hk h=>hk _ h) ?_
 rintro n K ⟨h1,h2⟩ h
 refine ⟨Nat.le_of_ble_eq_true rfl,?_⟩
 repeat' (first|refine vz ?_|(conv=>whnf); first|with_reducible first|refine Sp.mk ?_ ?_|refine br_d (fun _=>?_) fun _=>?_|refine vM (fun _=>?_) fun _=>?_)
 refine Lp.mk ⟨Nat,fun i=>[(0,.int .i64 n),(3,.int .i64 (fac (i+1))),(4,.int .i64 (i+2))],fun _=>[],fun i=>i=0∨(i:Int)+1≤n,fun i=>7-i,⟨0,.inl rfl,⟨⟨[],[],rfl,rfl,?_,?_⟩⟩⟩,?_⟩
 ·exact wq
 ·exact wq
 intro i i1
 have hf:i+1<7:=by omega
 have hb:=fac_le (i+1) hf
 have hm:fac (i+1)*((i:Int)+2)=fac (i+2):=by
  rw [show ((i:Int)+2)=(((i+1:Nat):Int)+1) by omega]
  rfl
 dsimp only
 repeat' ((conv=>whnf); first|((with_reducible refine Wr.ex (wi64 ?_ ?_) ?_); (focus (have:=fac_le (i+2) (by omega); rw [hm]; omega)); (focus (have:=fac_le (i+2) (by omega); rw [hm]; omega)))|refine vA ?_|with_reducible first|refine v8 ?_|refine Ch.l ?_|refine Sp.mk ?_ ?_|refine vS ?_|refine vR ?_|refine vB ?_|refine br_nt ?_|refine br_tt ?_|refine br_ff ?_|refine vP ?_|refine vQ ?_|refine vT ?_|refine vF ?_|refine br_and ?_|refine br_or ?_|refine br_d (fun _=>?_) fun _=>?_|refine vM (fun _=>?_) fun _=>?_)
 ·refine ⟨i+1,.inr (by omega),by show 7-(i+1)<7-i; omega,⟨⟨[],[],rfl,rfl,?_,?_⟩⟩⟩
  ·repeat' ((conv=>whnf); first|with_reducible exact True.intro|exact vW|with_reducible refine And.intro ?_ ?_)
   all_goals first|exact Chk.mk hm|exact Chk.mk hm.symm|exact Chk.mk (by omega)
  ·exact wq
 ·have e:fac (i+1)=fac n.toNat:=by
   rcases i1 with rfl|i1
   ·rcases Int.lt_or_le n 1 with hn|hn
    ·rw [show n.toNat=0 by omega]; rfl
    ·rw [show n.toNat=1 by omega]
   ·rw [show n.toNat=i+1 by omega]
  rw [e]
  exact h
end Go.Proofs.YtgdbhjmpkkbnnaaGreatDoor.Vc
end
section
/- Part ZL: pivots over all orders. -/
namespace Go.Proofs.YtgdbhjmpkkbnnaaGreatDoor.Vc
open Go.Proofs
set_option maxRecDepth 10000
set_option maxHeartbeats 4000000
def ord (p c:Int):Int:=fac (heads c.toNat)*fac (p-1-heads c.toNat).toNat
def sumO (p:Int):List Int→Int
 |[]=>0
 |c :: l=>ord p c+sumO p l
theorem sumO_app (p:Int):∀ (l m:List Int),sumO p (l ++ m)=sumO p l+sumO p m
 |[],m=>by simp [sumO]
 |c :: l,m=>by simp only [List.cons_append,sumO,sumO_app p l m]; omega
theorem heads6:∀ c,c<64→heads c≤6:=by decide +kernel
theorem fac0 (k:Int) (h:k≤6):1≤fac k.toNat∧fac k.toNat≤720:=fac_le k.toNat (by omega)
theorem ord_le {p c:Int} (h1:p≤6) (h2:0≤c) (h3:c<64):0≤ord p c∧ord p c≤518400:=by
 have a:=fac_le (heads c.toNat) (by have:=heads6 c.toNat (by omega); omega)
 have b:=fac0 (p-1-heads c.toNat) (by omega)
 unfold ord
 refine ⟨Int.mul_nonneg (by omega) (by omega),?_⟩
 have:=Int.mul_le_mul a.2 b.2 (by omega) (by omega)
 omega
structure Ox where
 h:House
 t:List Mark
 who:Int
def pivotsOf (x:Ox):Int:=if termOk x.h x.t∧0≤x.who∧x.who<x.h.p then sumO x.h.p (swl x.h.bs x.t x.who (pw x.h.p).toNat) else -1
def C26:List AV→(AV→Prop)→Prop:=con (X:=Ox) (fun x=>[enH x.h,slM x.t,.int .i64 x.who]) (fun x=>termI x.h x.t∧i64r x.who) fun x K=>K (.int .i64 (pivotsOf x))
theorem swl_lt (bs:List Int) (t:List Mark) (w:Int):∀ k,∀ c∈swl bs t w k,0≤c∧c<k
 |0,c,h=>by cases h
 |k+1,c,h=>by
  unfold swl at h
  split at h
  ·rcases List.mem_append.1 h with h|h
   ·have:=swl_lt bs t w k c h; omega
   ·simp at h; omega
  ·have:=swl_lt bs t w k c h; omega
theorem sumO_le {p:Int} (hp:p≤6):∀ l:List Int,(∀ c∈l,0≤c∧c<64)→0≤sumO p l∧sumO p l≤518400*l.length
 |[],_=>by simp [sumO]
 |c :: l,h=>by
  have h1:=ord_le hp (h c List.mem_cons_self).1 (h c List.mem_cons_self).2
  have h2:=sumO_le hp l fun d hd=>h d (List.mem_cons_of_mem _ hd)
  simp only [sumO,List.length_cons]
  omega
theorem sumO_take {p:Int} {l:List Int} {i:Nat} (h:i<l.length):sumO p (l.take (i+1))=sumO p (l.take i)+ord p (l.getD i 0):=by
 rw [take_succ' 0 h,sumO_app]
 simp [sumO]
theorem sayOk_of {p:Int} {bs:List Int} {t:List Mark} (h:termOk ⟨p,bs⟩ t) (c:Int) (h1:0≤c) (h2:c<64):sayOk ⟨p,bs,t,c⟩:=by
 have pp:people p:=h.1.1
 have pw2:=(pw_le pp).2
 have:=h.2.1
 exact ⟨by show t.length<4611686018427387904; have:t.length≤9:=this; omega,h.2.2,fun b hb=>by have g:crowd p b:=(h.1.2.2 b hb).1; have:=g.2; omega,h1,h2⟩
theorem F26:FF 154 C26:=by
 refine fitE [(143,C38),(179,C43),(167,C50),(180,C49)] (by simp only [List.mem_cons,List.not_mem_nil,or_false]; rintro _ (rfl|rfl|rfl|rfl) <;> first|exact F38|exact F43|exact F50|exact F49) Tryz.f154 ⟨rfl,by decide +kernel,by decide +kernel⟩ (fun _ _ _ hk h=>hk _ h) ?_
 rintro ⟨⟨p,bs⟩,t,w⟩ K ⟨hI,hw⟩ h
 refine ⟨Nat.le_of_ble_eq_true rfl,?_⟩
 dsimp only at h hI hw ⊢
 unfold pivotsOf at h
 dsimp only at h
 repeat' (first|refine vz ?_|(conv=>whnf); first|with_reducible first|refine Sp.mk ?_ ?_|refine br_d (fun _=>?_) fun _=>?_|refine vM (fun _=>?_) fun _=>?_)
 refine ⟨(⟨p,bs⟩,t),?_,⟨hI⟩,?_⟩
 ·exact wq
 repeat' (first|refine vz ?_|(conv=>whnf); first|with_reducible first|refine Sp.mk ?_ ?_|refine br_d (fun _=>?_) fun _=>?_|refine vM (fun _=>?_) fun _=>?_)
 ·rename_i hO h1
  rw [if_neg (fun q=>by have:=q.2.1; omega)] at h
  exact h
 ·rename_i hO _ h2
  rw [if_neg (fun q=>by have:=q.2.2; have h2:p≤w:=h2; omega)] at h
  exact h
 ·rename_i hO h1 h2
  replace h2:¬ p≤w:=h2
  have hO':termOk ⟨p,bs⟩ t:=hO
  rw [if_pos ⟨hO',by omega,by omega⟩] at h
  have pp:people p:=hO'.1.1
  have pw2:=pw_le pp
  have hp:=pp.2
  have hl:=swl_lt bs t w (pw p).toNat
  have hll:=swl_le bs t w (pw p).toNat
  refine ⟨⟨p,bs,t,w⟩,?_,⟨pp,sayOk_of hO',hO'.2.1,by show 0≤w; omega,by show w<6; omega⟩,?_⟩
  ·exact wq
  dsimp only
  generalize hL:swl bs t w (pw p).toNat=L at h hl hll ⊢
  have hl2:∀ c∈L,0≤c∧c<64:=fun c hc=>by have:=hl c hc; omega
  repeat' (first|refine vz ?_|(conv=>whnf); first|with_reducible first|refine Sp.mk ?_ ?_|refine br_d (fun _=>?_) fun _=>?_|refine vM (fun _=>?_) fun _=>?_)
  refine Lp.mk ⟨Nat,fun i=>[(3,.ptr 0 0),(7,.int .i64 (sumO p (L.take i))),(27,slI L),(28,.int .i64 L.length),(29,.int .i64 i)],
   fun i=>[.box [.int .i64 p,slI bs]],fun i=>i≤L.length,fun i=>L.length-i,⟨0,Nat.zero_le _,⟨⟨[some 0],[],rfl,rfl,?_,?_⟩⟩⟩,?_⟩
  ·exact wq
  ·exact wq
  intro i i1
  dsimp only
  have hs:=sumO_le hp (L.take i) fun c hc=>hl2 c (List.mem_of_mem_take hc)
  have ht:(L.take i).length≤64:=by rw [List.length_take]; omega
  repeat' (first|refine vz ?_|(conv=>whnf); first|with_reducible first|refine Sp.mk ?_ ?_|refine br_d (fun _=>?_) fun _=>?_|refine vM (fun _=>?_) fun _=>?_)
  ·rename_i hi
   replace hi:i<L.length:=by omega
   have hc:=hl2 _ (getD_mem' (d:=0) hi)
   have ho:=ord_le hp hc.1 hc.2
   have hh:=heads6 (L.getD i 0).toNat (by omega)
   have hs2:=sumO_take (p:=p) hi
   have f1:=fac_le (heads (L.getD i 0).toNat) (by omega)
   have f2:=fac0 (p-1-heads (L.getD i 0).toNat) (by omega)
   refine Dr.mk ⟨(.rd 0 (.rd 1 (.rd 4 (.rd 5 (.rd 6 (.rd 7 (.ef 2 (.ef 3 (.ef 8 (.rd 9 (.ef 10 (.rd 11 (.rd 12 (.rd 13 .dn))) .no)) .no) .no) .no))))))),by decide +kernel,?_⟩
   repeat' (first|refine vz ?_|(conv=>whnf); first|with_reducible first|refine Sp.mk ?_ ?_|refine br_d (fun _=>?_) fun _=>?_|refine vM (fun _=>?_) fun _=>?_)
   refine ⟨L.getD i 0,?_,⟨hc⟩,?_⟩
   ·exact wq
   repeat' (first|refine vz ?_|(conv=>whnf); first|with_reducible first|refine Sp.mk ?_ ?_|refine br_d (fun _=>?_) fun _=>?_|refine vM (fun _=>?_) fun _=>?_)
   refine ⟨heads (L.getD i 0).toNat,?_,⟨by omega⟩,?_⟩
   ·exact wq
   have ho':0≤fac ((heads (L.getD i 0).toNat:Nat):Int).toNat*fac (p-1-heads (L.getD i 0).toNat).toNat∧fac ((heads (L.getD i 0).toNat:Nat):Int).toNat*fac (p-1-heads (L.getD i 0).toNat).toNat≤518400:=by rw [Int.toNat_natCast]; exact ho
   repeat' (first|refine vz ?_|(conv=>whnf); first|with_reducible first|refine Sp.mk ?_ ?_|refine br_d (fun _=>?_) fun _=>?_|refine vM (fun _=>?_) fun _=>?_)
   refine ⟨L.getD i 0,?_,⟨hc⟩,?_⟩
   ·exact wq
   repeat' (first|refine vz ?_|(conv=>whnf); first|with_reducible first|refine Sp.mk ?_ ?_|refine br_d (fun _=>?_) fun _=>?_|refine vM (fun _=>?_) fun _=>?_)
   refine ⟨p-1-heads (L.getD i 0).toNat,?_,⟨by have:=pp.1; omega⟩,?_⟩
   ·exact wq
   repeat' (first|refine vz ?_|(conv=>whnf); first|with_reducible refine Wr.ex (wi64 (by omega) (by omega)) ?_|with_reducible first|refine Sp.mk ?_ ?_|refine br_d (fun _=>?_) fun _=>?_|refine vM (fun _=>?_) fun _=>?_)
   refine ⟨i+1,by show i+1≤L.length; omega,by show L.length-(i+1)<L.length-i; omega,⟨⟨[some 0],[],rfl,rfl,?_,?_⟩⟩⟩
   ·repeat' ((conv=>whnf); first|with_reducible exact True.intro|exact vW|with_reducible refine And.intro ?_ ?_)
    all_goals exact Chk.mk hs2
   ·exact wq
  ·rw [List.take_of_length_le (by omega)]
   exact h
 ·rename_i hO
  rw [if_neg (fun q=>hO q.1)] at h
  exact h
end Go.Proofs.YtgdbhjmpkkbnnaaGreatDoor.Vc
end
section
/- Part ZT: duals, plain. -/
namespace Go.Proofs.YtgdbhjmpkkbnnaaGreatDoor.Vc
set_option maxRecDepth 10000
set_option maxHeartbeats 4000000
def pop (m:Nat):Nat:=m % 2+m / 2 % 2+m / 4 % 2+m / 8 % 2+m / 16 % 2+m / 32 % 2
theorem heads_pop:∀ m,m<64→heads m=pop m:=by decide +kernel
theorem pop_mono:∀ b,b<64→∀ c,c<64→∀ w,w<6→pop (band (b:Nat) (c:Nat)).toNat≤pop (band (b:Nat) (add (c:Nat) (w:Nat))).toNat:=by decide +kernel
theorem pop_full:∀ p,p<7→∀ b,b<2 ^ p→band (b:Nat) ((2 ^ p-1:Nat):Int)=b:=by decide +kernel
def full (p:Int):Int:=pw p-1
theorem pw_nat {p:Int} (h:people p):pw p=((2 ^ p.toNat:Nat):Int):=by
 rcases people_cases h with rfl|rfl|rfl|rfl|rfl|rfl <;> rfl
def dualM (bs:List Int) (m:Mark):Mark:=if m.kind=0 then ⟨0,m.at_,heads (bs.getD m.at_.toNat 0).toNat+1-m.need⟩ else if m.kind=1 then ⟨2,m.at_,m.need⟩ else ⟨1,m.at_,m.need⟩
def dualT (bs:List Int) (t:List Mark):List Mark:=t.map (dualM bs)
theorem stepP_dual {bs:List Int} {m:Mark} {k j:Nat} (h:stepP bs m k=some j):stepP bs (dualM bs m) k=some j:=by
 obtain ⟨kd,a,n⟩:=m
 unfold stepP dualM at *
 dsimp only at h ⊢
 split at h
 ·rename_i g
  injection h with h
  rw [if_pos g.1]
  dsimp only
  rw [if_pos (by omega),h]
 ·rename_i g
  split at h
  ·rename_i g2
   injection h with h
   rw [if_neg (show ¬ kd=0 by omega)]
   by_cases hk:kd=1
   ·rw [if_pos hk]; dsimp only; rw [if_neg (by omega),if_pos (by omega),h]
   ·rw [if_neg hk]; dsimp only; rw [if_neg (by omega),if_pos (by omega),h]
  ·cases h
theorem walkP_dual {bs:List Int}:∀ (t:List Mark) (k j:Nat),walkP bs t k=some j→walkP bs (dualT bs t) k=some j
 |[],k,j,h=>h
 |m :: t,k,j,h=>by
  simp only [walkP] at h
  cases e:stepP bs m k with
  |none=>rw [e] at h; cases h
  |some i =>
   rw [e] at h
   show walkP bs (dualM bs m :: dualT bs t) k=some j
   simp only [walkP]
   rw [stepP_dual e]
   exact walkP_dual t i j h
theorem termOk_dual {p:Int} {bs:List Int} {t:List Mark} (h:termOk ⟨p,bs⟩ t):termOk ⟨p,bs⟩ (dualT bs t) :=
 ⟨h.1,by show (dualT bs t).length≤9; rw [dualT,List.length_map]; exact h.2.1,walkP_dual t 0 1 h.2.2⟩
def goodM (bs:List Int) (m:Mark):Prop:=(m.kind=0∧0≤m.at_∧m.at_<bs.length∧1≤m.need∧m.need≤heads (bs.getD m.at_.toNat 0).toNat)∨m.kind=1∨m.kind=2
theorem walk_good {bs:List Int}:∀ (t:List Mark) (k j:Nat),walkP bs t k=some j→∀ m∈t,goodM bs m
 |[],_,_,_,m,hm=>by cases hm
 |x :: t,k,j,h,m,hm=>by
  simp only [walkP] at h
  cases e:stepP bs x k with
  |none=>rw [e] at h; cases h
  |some i =>
   rw [e] at h
   rcases List.mem_cons.1 hm with rfl|hm
   ·unfold stepP at e
    split at e
    ·rename_i g; exact .inl g
    ·split at e
     ·rename_i g; exact .inr g.1
     ·cases e
   ·exact walk_good t i j h m hm
section
variable {p:Int} {bs:List Int}
theorem body_ok (hb:∀ b∈bs,crowd p b∧b≠0) {m:Mark} (h1:0≤m.at_) (h2:m.at_<bs.length):crowd p (bs.getD m.at_.toNat 0):=(hb _ (getD_mem' (by omega))).1
theorem says_mono {t:List Mark} (ht:termOk ⟨p,bs⟩ t) {c w:Int} (h1:0≤c) (h2:c<pw p) (h3:0≤w) (h4:w<p) (h:says bs c t=true):says bs (add c w) t=true:=by
 have hp:people p:=ht.1.1
 have pl:=pw_le hp
 have hp6:p≤6:=hp.2
 have hb:=ht.1.2.2
 have hc:∀ m,goodM bs m→m.kind=0→cnt bs c m=true→cnt bs (add c w) m=true:=by
  intro m hm hk hx
  rcases hm with ⟨_,g1,g2,g3,g4⟩|g|g <;> try omega
  obtain ⟨_,k1,k2⟩:=body_ok hb g1 g2
  unfold cnt at hx ⊢
  generalize hB:bs.getD m.at_.toNat 0=B at hx g4 k1 k2
  have k3:B<pw p:=k2
  have:=pop_mono B.toNat (by omega) c.toNat (by omega) w.toNat (by omega)
  rw [Int.toNat_of_nonneg k1,Int.toNat_of_nonneg h1,Int.toNat_of_nonneg h3] at this
  have b1:=band_lt k1 (by omega) h1 (by omega)
  have b3:=add_lt h1 (by omega) h3 (by omega)
  have b2:=band_lt (a:=B) (b:=add c w) k1 (by omega) b3.1 b3.2
  rw [decide_eq_true_eq,heads_pop _ (by omega)] at hx
  rw [decide_eq_true_eq,heads_pop _ (by omega)]
  omega
 have key:∀ (t:List Mark) (s r:List Bool),(∀ m∈t,goodM bs m)→s.length=r.length→(∀ i,s.getD i false=true→r.getD i false=true) →
   (runS bs c t s).length=(runS bs (add c w) t r).length∧∀ i,(runS bs c t s).getD i false=true→(runS bs (add c w) t r).getD i false=true:=by
  intro t
  induction t with
  |nil=>exact fun s r _ hl hi=>⟨hl,hi⟩
  |cons m t ih =>
   intro s r hg hl hi
   have hm:=hg m List.mem_cons_self
   refine ih _ _ (fun x hx=>hg x (List.mem_cons_of_mem _ hx)) ?_ ?_
   ·unfold stepS
    by_cases hk:m.kind=0
    ·rw [if_pos hk,if_pos hk]; simp [hl]
    ·rw [if_neg hk,if_neg hk]
     match s,r,hl with
     |[],[],_=>rfl
     |[_],[_],_=>rfl
     |b :: a :: s,b' :: a' :: r,hl=>simpa using hl
   ·unfold stepS
    by_cases hk:m.kind=0
    ·rw [if_pos hk,if_pos hk]
     intro i
     cases i with
     |zero=>simpa using hc m hm hk
     |succ i=>simpa using hi i
    ·rw [if_neg hk,if_neg hk]
     match s,r,hl with
     |[],[],_=>exact hi
     |[_],[_],_=>exact hi
     |b :: a :: s,b' :: a' :: r,hl =>
      intro i
      have h0:=hi 0
      have h1:=hi 1
      simp only [List.getD_cons_zero,List.getD_cons_succ] at h0 h1
      cases i with
      |zero =>
       simp only [List.getD_cons_zero]
       by_cases h2:m.kind=2
       ·rw [if_pos h2,if_pos h2]
        cases a <;> cases b <;> cases a' <;> cases b' <;> simp_all
       ·rw [if_neg h2,if_neg h2]
        cases a <;> cases b <;> cases a' <;> cases b' <;> simp_all
      |succ i=>simpa using hi (i+2)
 have:=(key t [] [] (walk_good t 0 1 ht.2.2) rfl (fun i h=>h)).2 0
 unfold says at h ⊢
 revert this h
 cases runS bs c t [] <;> cases runS bs (add c w) t [] <;> simp
 exact fun h1 h2=>h2 h1
theorem says_const {t:List Mark} (ht:termOk ⟨p,bs⟩ t) {c:Int} {v:Bool} (hc:∀ m,goodM bs m→m.kind=0→cnt bs c m=v):says bs c t=v:=by
 have key:∀ (t:List Mark) (s:List Bool),(∀ m∈t,goodM bs m)→(∀ x∈s,x=v)→∀ x∈runS bs c t s,x=v:=by
  intro t
  induction t with
  |nil=>exact fun s _ h=>h
  |cons m t ih =>
   intro s hg hs
   refine ih _ (fun x hx=>hg x (List.mem_cons_of_mem _ hx)) ?_
   unfold stepS
   by_cases hk:m.kind=0
   ·rw [if_pos hk]
    intro x hx
    rcases List.mem_cons.1 hx with rfl|hx
    ·exact hc m (hg m List.mem_cons_self) hk
    ·exact hs x hx
   ·rw [if_neg hk]
    match s with
    |[]=>exact hs
    |[_]=>exact hs
    |b :: a :: r =>
     intro x hx
     have h1:=hs b List.mem_cons_self
     have h2:=hs a (List.mem_cons_of_mem _ List.mem_cons_self)
     rcases List.mem_cons.1 hx with rfl|hx
     ·rw [h1,h2]; split <;> cases v <;> rfl
     ·exact hs x (List.mem_cons_of_mem _ (List.mem_cons_of_mem _ hx))
 have f:=(runS_frame (bs:=bs) (c:=c) t [] [] 1 ht.2.2).2
 have k:=key t [] (walk_good t 0 1 ht.2.2) (fun x hx=>by cases hx)
 unfold says
 revert f k
 match runS bs c t [] with
 |[]=>intro f; cases f
 |x :: r=>intro f k; exact k x List.mem_cons_self
theorem says_full {t:List Mark} (ht:termOk ⟨p,bs⟩ t):says bs (full p) t=true:=says_const ht fun m hm hk=>by
 rcases hm with ⟨_,g1,g2,g3,g4⟩|g|g <;> try omega
 obtain ⟨hp,k1,k2⟩:=body_ok (p:=p) (bs:=bs) ht.1.2.2 g1 g2
 have pl:=pw_le hp
 have pn:=pw_nat hp
 have hp6:p.toNat<7:=by have:=hp.2; omega
 unfold cnt
 generalize hB:bs.getD m.at_.toNat 0=B at g4 k1 k2
 have:=pop_full p.toNat hp6 B.toNat (by omega)
 rw [Int.toNat_of_nonneg k1,show ((2 ^ p.toNat-1:Nat):Int)=full p by unfold full; omega] at this
 rw [this,decide_eq_true_eq]
 omega
end
end Go.Proofs.YtgdbhjmpkkbnnaaGreatDoor.Vc
end
section
/- Part ZU: swings and pivots, plain. -/
namespace Go.Proofs.YtgdbhjmpkkbnnaaGreatDoor.Vc
set_option maxRecDepth 10000
set_option maxHeartbeats 4000000
/-! ### Crowds, as numbers -/
end Go.Proofs.YtgdbhjmpkkbnnaaGreatDoor.Vc
end
section
/- Part ZV: swings and pivots of duals; all pivots together. -/
namespace Go.Proofs.YtgdbhjmpkkbnnaaGreatDoor.Vc
set_option maxRecDepth 10000
set_option maxHeartbeats 4000000
section
variable {p:Int} {bs:List Int} {t:List Mark}
structure Who (p:Int) (w:Nat):Prop where
 pp:people p
 lt:(w:Int)<p
theorem Who.n {w:Nat} (h:Who p w):p.toNat<7∧w<p.toNat∧((p.toNat:Nat):Int)=p∧(pw p).toNat=2 ^ p.toNat∧pw p=((2 ^ p.toNat:Nat):Int):=by
 have h1:=h.pp.1
 have h2:=h.pp.2
 have h3:=h.lt
 have h4:=pw_nat h.pp
 exact ⟨by omega,by omega,by omega,by rw [h4,Int.toNat_natCast],h4⟩
theorem full_nat (h:people p):full p=((2 ^ p.toNat-1:Nat):Int):=by
 have h4:=pw_nat h
 have h5:=pw_le h
 unfold full
 omega
end
end Go.Proofs.YtgdbhjmpkkbnnaaGreatDoor.Vc
end
section
/- Part QA: what is asked of a rule (plain). -/
namespace Go.Proofs.YtgdbhjmpkkbnnaaGreatDoor.Vc
set_option maxRecDepth 10000
set_option maxHeartbeats 4000000
def crw (n:Nat):List Int:=(List.range n).map fun (k:Nat)=>(k:Int)
theorem crw_succ (n:Nat):crw (n+1)=crw n ++ [(n:Int)]:=by unfold crw; rw [List.range_succ,List.map_append]; rfl
theorem mem_crw {c:Int} {n:Nat}:c∈crw n ↔ 0≤c∧c<n:=by
 unfold crw
 rw [List.mem_map]
 constructor
 ·rintro ⟨k,h,rfl⟩
  rw [List.mem_range] at h
  omega
 ·intro h
  exact ⟨c.toNat,List.mem_range.2 (by omega),by omega⟩
def cl (q:Int→Bool) (n:Nat):List Int:=(crw n).filter q
theorem cl_t {q:Int→Bool} {n:Nat} (h:q n=true):cl q (n+1)=cl q n ++ [(n:Int)]:=by
 unfold cl; rw [crw_succ,List.filter_append]; simp [h]
theorem cl_f {q:Int→Bool} {n:Nat} (h:q n=false):cl q (n+1)=cl q n:=by
 unfold cl; rw [crw_succ,List.filter_append]; simp [h]
theorem cl_le (q:Int→Bool) (n:Nat):(cl q n).length≤n:=by
 have:=List.length_filter_le q (crw n)
 unfold cl
 have e:(crw n).length=n:=by unfold crw; rw [List.length_map,List.length_range]
 omega
theorem mem_cl {q:Int→Bool} {n:Nat} {c:Int}:c∈cl q n ↔ (0≤c∧c<n)∧q c=true:=by
 unfold cl; rw [List.mem_filter,mem_crw]
def sayl (bs:List Int) (t:List Mark) (n:Nat):List Int:=cl (fun c=>says bs c t) n
def lsB (L:List Int) (c:Int):Bool:=L.all fun d=>decide (d=c) || decide (¬ band d c=d)
def memB (L:List Int) (c:Int):Bool:=L.any fun d=>decide (d=c)
theorem memB_iff {L:List Int} {c:Int}:memB L c=true ↔ c∈L:=by
 unfold memB
 rw [List.any_eq_true]
 constructor
 ·rintro ⟨d,h1,h2⟩; rw [← of_decide_eq_true h2]; exact h1
 ·intro h; exact ⟨c,h,decide_eq_true rfl⟩
def leastP (L:List Int) (c:Int):Bool:=memB L c && lsB L c
def leastF (L:List Int) (n:Nat):List Int:=cl (leastP L) n
theorem all_succ {q:Int→Bool} {L:List Int} {i:Nat} (h:i<L.length):(L.take (i+1)).all q=((L.take i).all q && q (L.getD i 0)):=by
 rw [take_succ' 0 h,List.all_append]; simp
theorem any_succ {q:Int→Bool} {L:List Int} {i:Nat} (h:i<L.length):(L.take (i+1)).any q=((L.take i).any q || q (L.getD i 0)):=by
 rw [take_succ' 0 h,List.any_append]; simp
theorem filt_t {q:Int→Bool} {L:List Int} {i:Nat} (h:i<L.length) (e:q (L.getD i 0)=true):(L.take (i+1)).filter q=(L.take i).filter q ++ [L.getD i 0]:=by
 rw [take_succ' 0 h,List.filter_append]
 simp only [List.filter_cons,List.filter_nil,e,if_true]
theorem filt_f {q:Int→Bool} {L:List Int} {i:Nat} (h:i<L.length) (e:q (L.getD i 0)=false):(L.take (i+1)).filter q=(L.take i).filter q:=by
 rw [take_succ' 0 h,List.filter_append]
 simp only [List.filter_cons,List.filter_nil,e,Bool.false_eq_true,if_false,List.append_nil]
theorem least_filter {q:Int→Bool} {n:Nat}:(cl q n).filter (lsB (cl q n))=leastF (cl q n) n:=by
 obtain ⟨L,hL⟩:∃ L,cl q n=L:=⟨_,rfl⟩
 unfold leastF
 rw [hL]
 show L.filter (lsB L)=(crw n).filter (leastP L)
 have e:L=(crw n).filter q:=by rw [← hL]; rfl
 conv=>lhs; arg 2; rw [e]
 rw [List.filter_filter]
 apply List.filter_congr
 intro c hc
 unfold leastP
 by_cases h:q c=true
 ·have:memB L c=true:=memB_iff.2 (by rw [e]; exact List.mem_filter.2 ⟨hc,h⟩)
  rw [h,this,Bool.and_true,Bool.true_and]
 ·have h':q c=false:=by simpa using h
  have:memB L c=false:=by
   cases hm:memB L c with
   |false=>rfl
   |true=>exact absurd (List.mem_filter.1 (e ▸ memB_iff.1 hm)).2 h
  rw [h',this,Bool.and_false,Bool.false_and]
theorem band_le:∀ d,d<64→∀ c,c<64→band (d:Nat) (c:Nat)≤(c:Nat):=by decide +kernel
theorem least_ne {q:Int→Bool} {n:Nat} (hn:n≤64) (h:∃ c,c∈cl q n):leastF (cl q n) n≠[]:=by
 have key:∀ k:Nat,∀ c,c∈cl q n→c<k→∃ c,c∈cl q n∧∀ d,d∈cl q n→c≤d:=by
  intro k
  induction k with
  |zero=>intro c hc h; have:=(mem_cl.1 hc).1; omega
  |succ k ih =>
   intro c hc h
   by_cases g:∀ d,d∈cl q n→c≤d
   ·exact ⟨c,hc,g⟩
   ·obtain ⟨d,hd⟩:=Classical.not_forall.1 g
    have h1:d∈cl q n:=Classical.byContradiction fun z=>hd fun z'=>absurd z' z
    have h2:¬ c≤d:=fun z=>hd fun _=>z
    exact ih d h1 (by omega)
 obtain ⟨c0,h0⟩:=h
 obtain ⟨c,hc,hm⟩:=key n c0 h0 (mem_cl.1 h0).1.2
 have h1:=mem_cl.1 hc
 have:c∈leastF (cl q n) n:=by
  refine mem_cl.2 ⟨h1.1,?_⟩
  unfold leastP
  rw [memB_iff.2 hc,Bool.true_and]
  unfold lsB
  rw [List.all_eq_true]
  intro d hd
  have h2:=mem_cl.1 hd
  have h3:=hm d hd
  by_cases e:d=c
  ·rw [decide_eq_true e,Bool.true_or]
  ·have hb:=band_le d.toNat (by omega) c.toNat (by omega)
   rw [Int.toNat_of_nonneg h2.1.1,Int.toNat_of_nonneg h1.1.1] at hb
   rw [decide_eq_true (show ¬ band d c=d by omega),Bool.or_true]
 intro e
 rw [e] at this
 cases this
theorem crw_sorted:∀ n,(crw n).Pairwise (·<·)
 |0=>List.Pairwise.nil
 |n+1=>by
  rw [crw_succ,List.pairwise_append]
  refine ⟨crw_sorted n,List.pairwise_singleton _ _,fun a ha b hb=>?_⟩
  rw [List.mem_singleton] at hb
  have:=(mem_crw.1 ha).2
  omega
theorem cl_sorted (q:Int→Bool) (n:Nat):(cl q n).Pairwise (·<·):=(crw_sorted n).filter q
section
variable {p:Int} {bs:List Int} {t:List Mark}
theorem least_some (ht:termOk ⟨p,bs⟩ t):leastF (sayl bs t (pw p).toNat) (pw p).toNat≠[]:=by
 have hp:people p:=ht.1.1
 have pl:=pw_le hp
 have h1:=says_full ht
 refine least_ne (by omega) ⟨full p,mem_cl.2 ⟨⟨by unfold full; omega,by unfold full; omega⟩,h1⟩⟩
def needF (p:Int) (bs:List Int) (t:List Mark):Nat→Int
 |0=>0
 |k+1=>if says bs (full p-((2 ^ k:Nat):Int)) t=true then needF p bs t k else add (needF p bs t k) k
def sameU (bs:List Int) (t:List Mark) (w:Int) (n:Nat):Bool:=(crw n).all fun c=>says bs c t == says bs (add c w) t
theorem rall_succ {q:Int→Bool} (n:Nat):(crw (n+1)).all q=((crw n).all q && q n):=by rw [crw_succ,List.all_append]; simp
theorem rany_succ {q:Int→Bool} (n:Nat):(crw (n+1)).any q=((crw n).any q || q n):=by rw [crw_succ,List.any_append]; simp
theorem swl_nil {w:Int}:∀ n:Nat,(swl bs t w n).length=0 ↔ ∀ c:Nat,c<n→swing bs t (c:Int) w=false
 |0=>⟨fun _ c h=>absurd h (Nat.not_lt_zero _),fun _=>rfl⟩
 |n+1=>by
  have ih:=swl_nil (w:=w) n
  unfold swl
  split
  ·rename_i h
   constructor
   ·intro e; rw [List.length_append] at e; simp at e
   ·intro e; rw [e n (Nat.lt_succ_self n)] at h; cases h
  ·rename_i h
   rw [ih]
   constructor
   ·intro e c hc
    by_cases hcn:c=n
    ·subst hcn; simpa using h
    ·exact e c (by omega)
   ·intro e c hc; exact e c (by omega)
theorem has_add_same:∀ w,w<6→∀ c,c<64→has (c:Nat) (w:Nat)=true→add (c:Nat) (w:Nat)=(c:Nat):=by decide +kernel
theorem same_idle (ht:termOk ⟨p,bs⟩ t) {w:Nat} (hw:(w:Int)<p):sameU bs t w (pw p).toNat=decide ((swl bs t w (pw p).toNat).length=0):=by
 have hp:people p:=ht.1.1
 have pl:=pw_le hp
 have hp6:=hp.2
 have e:sameU bs t w (pw p).toNat=true ↔ (swl bs t w (pw p).toNat).length=0:=by
  rw [swl_nil]
  unfold sameU
  rw [List.all_eq_true]
  constructor
  ·intro h c hc
   have:=h c (mem_crw.2 ⟨by omega,by omega⟩)
   rw [beq_iff_eq] at this
   unfold swing
   rw [this]
   cases says bs (add c w) t <;> simp
  ·intro h c hc
   have hc':=mem_crw.1 hc
   have h1:=h c.toNat (by omega)
   rw [Int.toNat_of_nonneg hc'.1] at h1
   unfold swing at h1
   rw [beq_iff_eq]
   cases hh:has c w with
   |true =>
    have:=has_add_same w (by omega) c.toNat (by omega)
    rw [Int.toNat_of_nonneg hc'.1] at this
    rw [this hh]
   |false =>
    have hm:=says_mono ht (c:=c) (w:=w) hc'.1 (by omega) (by omega) hw
    rw [hh] at h1
    cases hs:says bs c t with
    |true=>rw [hm hs]
    |false =>
     rw [hs] at h1
     simpa using h1.symm
 cases hb:sameU bs t w (pw p).toNat with
 |true=>exact (decide_eq_true (e.1 hb)).symm
 |false=>exact (decide_eq_false fun q=>by rw [e.2 q] at hb; cases hb).symm
theorem idle_small':∀ k,k<6→∀ c,c<2 ^ k→0≤add (c:Nat) (k:Nat)∧add (c:Nat) (k:Nat)<(2 ^ (k+1):Nat):=by decide +kernel
theorem need_lt:∀ k,k≤6→0≤needF p bs t k∧needF p bs t k<(2 ^ k:Nat)
 |0,_=>⟨Int.le_refl 0,by show (0:Int)<1; decide⟩
 |k+1,h=>by
  have:=need_lt k (by omega)
  unfold needF
  split
  ·rw [Nat.pow_succ]; omega
  ·have e:=idle_small' k (by omega) (needF p bs t k).toNat (by omega)
   rwa [Int.toNat_of_nonneg this.1] at e
end
def decB (p:Int) (bs:List Int) (t:List Mark) (n:Nat):Bool:=(crw n).all fun c=>!(says bs c t == says bs (full p-c) t)
def claB (p:Int) (bs:List Int) (t:List Mark) (n:Nat):Bool:=(crw n).any fun c=>says bs c t && says bs (full p-c) t
end Go.Proofs.YtgdbhjmpkkbnnaaGreatDoor.Vc
end
section
/- Part ZM: the law FnExactPivotsOf. -/
namespace Go.Proofs.YtgdbhjmpkkbnnaaGreatDoor.Vc
open Go.Proofs
set_option maxRecDepth 10000
set_option maxHeartbeats 4000000
def C25:=C26
theorem swOk_of {p:Int} {bs:List Int} {t:List Mark} {w:Int} (h:termOk ⟨p,bs⟩ t) (h3:0≤w) (h4:w<p) (c:Int) (h1:0≤c) (h2:c<64):swOk ⟨p,bs,t,c,w⟩ :=
 ⟨sayOk_of h c h1 h2,h.2.1,h3,by have:=h.1.1.2; show w<6; have:p≤6:=this; omega⟩
theorem F25:FF 87 C25:=by
 refine fitE [(108,C33),(74,C35),(115,C44),(113,C48),(116,C47)] (by simp only [List.mem_cons,List.not_mem_nil,or_false]; rintro _ (rfl|rfl|rfl|rfl|rfl) <;> first|exact F33|exact F35|exact F44|exact F48|exact F47) Tryz.f87 ⟨rfl,by decide +kernel,by decide +kernel⟩ (fun _ _ _ hk h=>hk _ h) ?_
 rintro ⟨⟨p,bs⟩,t,w⟩ K ⟨hI,hw⟩ h
 refine ⟨Nat.le_of_ble_eq_true rfl,?_⟩
 dsimp only [enH] at h hI hw ⊢
 unfold pivotsOf at h
 dsimp only at h
 repeat' (first|refine vz ?_|(conv=>whnf); first|with_reducible first|refine Sp.mk ?_ ?_|refine br_d (fun _=>?_) fun _=>?_|refine vM (fun _=>?_) fun _=>?_)
 refine ⟨(⟨p,bs⟩,t),?_,⟨hI⟩,?_⟩
 ·exact wq
 repeat' (first|refine vz ?_|(conv=>whnf); first|with_reducible first|refine Sp.mk ?_ ?_|refine br_d (fun _=>?_) fun _=>?_|refine vM (fun _=>?_) fun _=>?_)
 ·rename_i hO
  have hO':termOk ⟨p,bs⟩ t:=hO
  have pp:people p:=hO'.1.1
  have pw2:=pw_le pp
  have hp1:=pp.1
  have hp:=pp.2
  repeat' (first|refine vz ?_|(conv=>whnf); first|with_reducible first|refine Sp.mk ?_ ?_|refine br_d (fun _=>?_) fun _=>?_|refine vM (fun _=>?_) fun _=>?_)
  refine ⟨(w,0,p-1),?_,⟨trivial⟩,?_⟩
  ·exact wq
  repeat' (first|refine vz ?_|(conv=>whnf); first|with_reducible first|refine Sp.mk ?_ ?_|refine br_d (fun _=>?_) fun _=>?_|refine vM (fun _=>?_) fun _=>?_)
  ·rename_i hb
   replace hb:0≤w∧w≤p-1:=hb
   rw [if_pos ⟨hO',by omega,by omega⟩] at h
   refine Lp.mk ⟨Nat,fun i=>[(1,slM t),(2,.int .i64 w),(3,.ptr 0 0),(7,.int .i64 (sumO p (swl bs t w i))),(8,.int .i64 i)],
    fun i=>[.box [.int .i64 p,slI bs]],fun i=>i≤(pw p).toNat,fun i=>(pw p).toNat-i,⟨0,Nat.zero_le _,⟨⟨[some 0],[],rfl,rfl,?_,?_⟩⟩⟩,?_⟩
   ·exact wq
   ·exact wq
   intro i i1
   dsimp only
   have hl:=swl_lt bs t w i
   have hs:=sumO_le hp (swl bs t w i) fun c hc=>by have:=hl c hc; omega
   have hll:=swl_le bs t w i
   repeat' (first|refine vz ?_|(conv=>whnf); first|with_reducible refine Wr.ex (wsh pp) ?_|with_reducible first|refine Sp.mk ?_ ?_|refine br_d (fun _=>?_) fun _=>?_|refine vM (fun _=>?_) fun _=>?_)
   ·rename_i hi
    rw [pw_sh pp] at hi
    have hi6:(i:Int)<64:=by omega
    have hi0:(0:Int)≤i:=by omega
    have ho:=ord_le hp hi0 hi6
    have hh:heads (i:Int).toNat≤6:=heads6 i (by omega)
    have f1:=fac_le (heads (i:Int).toNat) (by omega)
    have f2:=fac0 (p-1-heads (i:Int).toNat) (by omega)
    refine ⟨⟨p,bs,t,i,w⟩,?_,⟨swOk_of hO' (by omega) (by omega) _ hi0 hi6⟩,?_⟩
    ·exact wq
    dsimp only
    repeat' (first|refine vz ?_|(conv=>whnf); first|with_reducible first|refine Sp.mk ?_ ?_|refine br_d (fun _=>?_) fun _=>?_|refine vM (fun _=>?_) fun _=>?_)
    ·rename_i hv
     have e:sumO p (swl bs t w (i+1))=sumO p (swl bs t w i)+ord p i:=by rw [swl,if_pos hv,sumO_app]; simp [sumO]
     refine Dr.mk ⟨(.rd 0 (.rd 1 (.rd 4 (.rd 5 (.rd 6 (.rd 7 (.ef 2 (.ef 3 (.ef 8 (.rd 9 (.ef 10 (.rd 11 (.rd 12 (.rd 13 .dn))) .no)) .no) .no) .no))))))),by decide +kernel,?_⟩
     repeat' (first|refine vz ?_|(conv=>whnf); first|with_reducible first|refine Sp.mk ?_ ?_|refine br_d (fun _=>?_) fun _=>?_|refine vM (fun _=>?_) fun _=>?_)
     refine ⟨i,?_,⟨by unfold i64r; omega⟩,?_⟩
     ·exact wq
     repeat' (first|refine vz ?_|(conv=>whnf); first|with_reducible first|refine Sp.mk ?_ ?_|refine br_d (fun _=>?_) fun _=>?_|refine vM (fun _=>?_) fun _=>?_)
     refine ⟨heads (i:Int).toNat,?_,⟨by omega⟩,?_⟩
     ·exact wq
     repeat' (first|refine vz ?_|(conv=>whnf); first|with_reducible first|refine Sp.mk ?_ ?_|refine br_d (fun _=>?_) fun _=>?_|refine vM (fun _=>?_) fun _=>?_)
     refine ⟨i,?_,⟨by unfold i64r; omega⟩,?_⟩
     ·exact wq
     repeat' (first|refine vz ?_|(conv=>whnf); first|with_reducible first|refine Sp.mk ?_ ?_|refine br_d (fun _=>?_) fun _=>?_|refine vM (fun _=>?_) fun _=>?_)
     refine ⟨p-1-heads (i:Int).toNat,?_,⟨by omega⟩,?_⟩
     ·exact wq
     have ho':0≤fac ((heads (i:Int).toNat:Nat):Int).toNat*fac (p-1-heads (i:Int).toNat).toNat∧fac ((heads (i:Int).toNat:Nat):Int).toNat*fac (p-1-heads (i:Int).toNat).toNat≤518400:=ho
     repeat' (first|refine vz ?_|(conv=>whnf); first|with_reducible refine Wr.ex (wi64 (by omega) (by omega)) ?_|with_reducible first|refine Sp.mk ?_ ?_|refine br_d (fun _=>?_) fun _=>?_|refine vM (fun _=>?_) fun _=>?_)
     refine ⟨i+1,by show i+1≤(pw p).toNat; omega,by show (pw p).toNat-(i+1)<(pw p).toNat-i; omega,⟨⟨[some 0],[],rfl,rfl,?_,?_⟩⟩⟩
     ·repeat' ((conv=>whnf); first|with_reducible exact True.intro|exact vW|with_reducible refine And.intro ?_ ?_)
      all_goals exact Chk.mk e
     ·exact wq
    ·rename_i hv
     have e:sumO p (swl bs t w (i+1))=sumO p (swl bs t w i):=by rw [swl,if_neg (by rw [hv]; exact Bool.false_ne_true)]
     refine ⟨i+1,by show i+1≤(pw p).toNat; omega,by show (pw p).toNat-(i+1)<(pw p).toNat-i; omega,⟨⟨[some 0],[],rfl,rfl,?_,?_⟩⟩⟩
     ·repeat' ((conv=>whnf); first|with_reducible exact True.intro|exact vW|with_reducible refine And.intro ?_ ?_)
      all_goals exact Chk.mk e
     ·exact wq
   ·rename_i hi
    rw [pw_sh pp] at hi
    rw [show (pw p).toNat=i by omega] at h
    exact h
  ·rename_i hb
   replace hb:¬ (0≤w∧w≤p-1):=hb
   rw [if_neg (fun q=>hb ⟨q.2.1,by have:=q.2.2; omega⟩)] at h
   exact h
 ·rename_i hO
  rw [if_neg (fun q=>hO q.1)] at h
  exact h
end Go.Proofs.YtgdbhjmpkkbnnaaGreatDoor.Vc
end
section
/- Part ZS: swings, duals, who never matters, by the program. -/
namespace Go.Proofs.YtgdbhjmpkkbnnaaGreatDoor.Vc
open Go.Proofs
set_option maxRecDepth 10000
set_option maxHeartbeats 4000000
def swingsOf (x:Ox):Int:=if termOk x.h x.t∧0≤x.who∧x.who<x.h.p then (swl x.h.bs x.t x.who (pw x.h.p).toNat).length else -1
def C20:List AV→(AV→Prop)→Prop:=con (X:=Ox) (fun x=>[enH x.h,slM x.t,.int .i64 x.who]) (fun x=>termI x.h x.t∧i64r x.who) fun x K=>K (.int .i64 (swingsOf x))
theorem F20:FF 153 C20:=by
 refine fitE [(143,C38),(179,C43)] (by simp only [List.mem_cons,List.not_mem_nil,or_false]; rintro _ (rfl|rfl) <;> first|exact F38|exact F43) Tryz.f153 ⟨rfl,by decide +kernel,by decide +kernel⟩ (fun _ _ _ hk h=>hk _ h) ?_
 rintro ⟨⟨p,bs⟩,t,w⟩ K ⟨hI,hw⟩ h
 refine ⟨Nat.le_of_ble_eq_true rfl,?_⟩
 dsimp only [enH] at h hI hw ⊢
 unfold swingsOf at h
 dsimp only at h
 repeat' (first|refine vz ?_|(conv=>whnf); first|with_reducible first|refine Sp.mk ?_ ?_|refine br_d (fun _=>?_) fun _=>?_|refine vM (fun _=>?_) fun _=>?_)
 refine ⟨(⟨p,bs⟩,t),?_,⟨hI⟩,?_⟩
 ·exact wq
 repeat' (first|refine vz ?_|(conv=>whnf); first|with_reducible first|refine Sp.mk ?_ ?_|refine br_d (fun _=>?_) fun _=>?_|refine vM (fun _=>?_) fun _=>?_)
 ·rename_i hO h1
  rw [if_neg (fun q=>by have:=q.2.1; omega)] at h
  exact h
 ·rename_i hO _ h2
  rw [if_neg (fun q=>by have:=q.2.2; omega)] at h
  exact h
 ·rename_i hO h1 h2
  have hO':termOk ⟨p,bs⟩ t:=hO
  rw [if_pos ⟨hO',by omega,by omega⟩] at h
  have pp:people p:=hO'.1.1
  have hp:=pp.2
  refine ⟨⟨p,bs,t,w⟩,?_,⟨pp,sayOk_of hO',hO'.2.1,by show 0≤w; omega,by show w<6; omega⟩,?_⟩
  ·exact wq
  dsimp only
  repeat' (first|refine vz ?_|(conv=>whnf); first|with_reducible first|refine Sp.mk ?_ ?_|refine br_d (fun _=>?_) fun _=>?_|refine vM (fun _=>?_) fun _=>?_)
  exact h
 ·rename_i hO
  rw [if_neg (fun q=>hO q.1)] at h
  exact h
def C21:=C20
theorem F21:FF 86 C21:=by
 refine fitE [(108,C33),(74,C35),(115,C44)] (by simp only [List.mem_cons,List.not_mem_nil,or_false]; rintro _ (rfl|rfl|rfl) <;> first|exact F33|exact F35|exact F44) Tryz.f86 ⟨rfl,by decide +kernel,by decide +kernel⟩ (fun _ _ _ hk h=>hk _ h) ?_
 rintro ⟨⟨p,bs⟩,t,w⟩ K ⟨hI,hw⟩ h
 refine ⟨Nat.le_of_ble_eq_true rfl,?_⟩
 dsimp only [enH] at h hI hw ⊢
 unfold swingsOf at h
 dsimp only at h
 repeat' (first|refine vz ?_|(conv=>whnf); first|with_reducible first|refine Sp.mk ?_ ?_|refine br_d (fun _=>?_) fun _=>?_|refine vM (fun _=>?_) fun _=>?_)
 refine ⟨(⟨p,bs⟩,t),?_,⟨hI⟩,?_⟩
 ·exact wq
 repeat' (first|refine vz ?_|(conv=>whnf); first|with_reducible first|refine Sp.mk ?_ ?_|refine br_d (fun _=>?_) fun _=>?_|refine vM (fun _=>?_) fun _=>?_)
 ·rename_i hO
  have hO':termOk ⟨p,bs⟩ t:=hO
  have pp:people p:=hO'.1.1
  have pw2:=pw_le pp
  have hp1:=pp.1
  have hp:=pp.2
  repeat' (first|refine vz ?_|(conv=>whnf); first|with_reducible first|refine Sp.mk ?_ ?_|refine br_d (fun _=>?_) fun _=>?_|refine vM (fun _=>?_) fun _=>?_)
  refine ⟨(w,0,p-1),?_,⟨trivial⟩,?_⟩
  ·exact wq
  repeat' (first|refine vz ?_|(conv=>whnf); first|with_reducible first|refine Sp.mk ?_ ?_|refine br_d (fun _=>?_) fun _=>?_|refine vM (fun _=>?_) fun _=>?_)
  ·rename_i hb
   replace hb:0≤w∧w≤p-1:=hb
   rw [if_pos ⟨hO',by omega,by omega⟩] at h
   refine Lp.mk ⟨Nat,fun i=>[(1,slM t),(2,.int .i64 w),(3,.ptr 0 0),(7,.int .i64 (swl bs t w i).length),(8,.int .i64 i)],
    fun i=>[.box [.int .i64 p,slI bs]],fun i=>i≤(pw p).toNat,fun i=>(pw p).toNat-i,⟨0,Nat.zero_le _,⟨⟨[some 0],[],rfl,rfl,?_,?_⟩⟩⟩,?_⟩
   ·exact wq
   ·exact wq
   intro i i1
   dsimp only
   have hll:=swl_le bs t w i
   repeat' (first|refine vz ?_|(conv=>whnf); first|with_reducible refine Wr.ex (wsh pp) ?_|with_reducible first|refine Sp.mk ?_ ?_|refine br_d (fun _=>?_) fun _=>?_|refine vM (fun _=>?_) fun _=>?_)
   ·rename_i hi
    rw [pw_sh pp] at hi
    have hi6:(i:Int)<64:=by omega
    have hi0:(0:Int)≤i:=by omega
    refine ⟨⟨p,bs,t,i,w⟩,?_,⟨swOk_of hO' (by omega) (by omega) _ hi0 hi6⟩,?_⟩
    ·exact wq
    dsimp only
    repeat' (first|refine vz ?_|(conv=>whnf); first|with_reducible first|refine Sp.mk ?_ ?_|refine br_d (fun _=>?_) fun _=>?_|refine vM (fun _=>?_) fun _=>?_)
    ·rename_i hv
     have e:((swl bs t w (i+1)).length:Int)=(swl bs t w i).length+1:=by rw [swl,if_pos hv]; simp
     refine ⟨i+1,by show i+1≤(pw p).toNat; omega,by show (pw p).toNat-(i+1)<(pw p).toNat-i; omega,⟨⟨[some 0],[],rfl,rfl,?_,?_⟩⟩⟩
     ·exact wq
     ·exact wq
    ·rename_i hv
     have e:((swl bs t w (i+1)).length:Int)=(swl bs t w i).length:=by rw [swl,if_neg (by rw [hv]; exact Bool.false_ne_true)]
     refine ⟨i+1,by show i+1≤(pw p).toNat; omega,by show (pw p).toNat-(i+1)<(pw p).toNat-i; omega,⟨⟨[some 0],[],rfl,rfl,?_,?_⟩⟩⟩
     ·exact wq
     ·exact wq
   ·rename_i hi
    rw [pw_sh pp] at hi
    rw [show (pw p).toNat=i by omega] at h
    exact h
  ·rename_i hb
   replace hb:¬ (0≤w∧w≤p-1):=hb
   rw [if_neg (fun q=>hb ⟨q.2.1,by have:=q.2.2; omega⟩)] at h
   exact h
 ·rename_i hO
  rw [if_neg (fun q=>hO q.1)] at h
  exact h
theorem dual_ext {bs:List Int} {t:List Mark} {i:Nat} (hi:i<t.length) {g:Nat→List AV} (hg:g 0=encM (dualM bs (t.getD i default))):i+1=i+1∧∀ j,j<i+1→encM ((dualT bs (t.take (i+1))).getD j default)=appF i (fun j=>encM ((dualT bs (t.take i)).getD j default)) g j:=by
 have e:dualT bs (t.take (i+1))=dualT bs (t.take i) ++ [dualM bs (t.getD i default)]:=by
  unfold dualT
  rw [take_succ' default hi,List.map_append]
  rfl
 have l:(dualT bs (t.take i)).length=i:=by rw [dualT,List.length_map,List.length_take]; omega
 have:=app_extG encM default (l:=dualT bs (t.take i)) hg
 rw [l] at this
 rw [e]
 refine ⟨rfl,fun j hj=>this.2 j (by rw [List.length_append,l]; simpa using hj)⟩
structure Dx where
 p:Int
 bs:List Int
 t:List Mark
def C46:List AV→(AV→Prop)→Prop:=con (X:=Dx) (fun x=>[house x.p x.bs,slM x.t]) (fun x=>termOk ⟨x.p,x.bs⟩ x.t) fun x K=>K (slM (dualT x.bs x.t))
theorem F46:FF 159 C46:=by
 refine fitE [(167,C50)] (by simp only [List.mem_cons,List.not_mem_nil,or_false]; rintro _ rfl <;> first|exact F50) Tryz.f159 ⟨rfl,by decide +kernel,by decide +kernel⟩ (fun _ _ _ hk h=>hk _ h) ?_
 rintro ⟨p,bs,t⟩ K hO h
 refine ⟨Nat.le_of_ble_eq_true rfl,?_⟩
 dsimp only at h hO ⊢
 have hg:∀ m∈t,goodM bs m:=walk_good t 0 1 hO.2.2
 have ht9:t.length≤9:=hO.2.1
 have pp:people p:=hO.1.1
 have pl:=pw_le pp
 repeat' (first|refine vz ?_|(conv=>whnf); first|with_reducible first|refine Sp.mk ?_ ?_|refine br_d (fun _=>?_) fun _=>?_|refine vM (fun _=>?_) fun _=>?_)
 refine Lp.mk ⟨Nat,fun i=>[(2,.ptr 0 0),(5,.row 1 3 0 i),(9,slM t),(10,.int .i64 t.length),(11,.int .i64 i)],
  fun i=>[.box [.int .i64 p,slI bs],.row 3 i fun j=>encM ((dualT bs (t.take i)).getD j default)],fun i=>i≤t.length,fun i=>t.length-i,⟨0,Nat.zero_le _,⟨⟨[some 0,none],[],rfl,rfl,?_,?_⟩⟩⟩,?_⟩
 ·exact wq
 ·exact wq
 intro i i1
 dsimp only
 repeat' (first|refine vz ?_|(conv=>whnf); first|with_reducible first|refine Sp.mk ?_ ?_|refine br_d (fun _=>?_) fun _=>?_|refine vM (fun _=>?_) fun _=>?_)
 ·rename_i hk
  have hi:i<t.length:=by omega
  have hm:=hg _ (getD_mem' (l:=t) (i:=i) (d:=default) hi)
  have hk':(t.getD i default).kind=0:=hk
  rcases hm with ⟨_,g1,g2,g3,g4⟩|g|g <;> try omega
  have hb:=body_ok (p:=p) (bs:=bs) hO.1.2.2 g1 g2
  have hh:=heads_le (bs.getD (t.getD i default).at_.toNat 0).toNat
  have e0:((i:Nat):Int).toNat=i:=rfl
  refine Dr.mk ⟨(.rd 0 (.rd 1 (.rd 2 (.rd 3 (.rd 4 (.rd 5 (.rd 8 (.rd 9 (.ef 6 (.rd 7 (.rd 10 (.rd 11 (.ef 12 .dn .no)))) .no))))))))),by decide +kernel,?_⟩
  rw [e0]
  repeat' (first|refine vz ?_|(conv=>whnf); first|with_reducible first|refine Sp.mk ?_ ?_|refine br_d (fun _=>?_) fun _=>?_|refine vM (fun _=>?_) fun _=>?_)
  refine ⟨bs.getD (t.getD i default).at_.toNat 0,?_,⟨hb.2.1,by have:=hb.2.2; omega⟩,?_⟩
  ·exact wq
  repeat' (first|refine vz ?_|(conv=>whnf); first|with_reducible first|refine Sp.mk ?_ ?_|refine br_d (fun _=>?_) fun _=>?_|refine vM (fun _=>?_) fun _=>?_)
  refine ⟨i+1,by omega,by omega,⟨⟨[some 0,some 4],[],rfl,rfl,?_,?_⟩⟩⟩
  ·exact wq
  ·repeat' ((conv=>whnf); first|with_reducible exact True.intro|exact vW|with_reducible refine And.intro ?_ ?_)
   all_goals exact Chk.mk (dual_ext hi (by unfold dualM; rw [if_pos hk']; show [AV.int .i64 (t.getD i default).kind,_,_]=[AV.int .i64 0,_,_]; rw [hk']))
 ·rename_i hk hk1
  have hi:i<t.length:=by omega
  have hk':¬ (t.getD i default).kind=0:=hk
  have hk1':(t.getD i default).kind=1:=hk1
  refine ⟨i+1,by omega,by omega,⟨⟨[some 0,some 4],[],rfl,rfl,?_,?_⟩⟩⟩
  ·exact wq
  ·repeat' ((conv=>whnf); first|with_reducible exact True.intro|exact vW|with_reducible refine And.intro ?_ ?_)
   all_goals exact Chk.mk (dual_ext hi (by unfold dualM; rw [if_neg hk',if_pos hk1']; rfl))
 ·rename_i hk hk1
  have hi:i<t.length:=by omega
  have hk':¬ (t.getD i default).kind=0:=hk
  have hk1':¬ (t.getD i default).kind=1:=hk1
  refine ⟨i+1,by omega,by omega,⟨⟨[some 0,some 4],[],rfl,rfl,?_,?_⟩⟩⟩
  ·exact wq
  ·repeat' ((conv=>whnf); first|with_reducible exact True.intro|exact vW|with_reducible refine And.intro ?_ ?_)
   all_goals exact Chk.mk (dual_ext hi (by unfold dualM; rw [if_neg hk',if_neg hk1']; rfl))
 ·have e:t.take i=t:=List.take_of_length_le (by omega)
  rw [e]
  have e2:(fun k=>(fun j=>encM ((dualT bs t).getD j default)) (0+k))=fun j=>encM ((dualT bs t).getD j default):=by funext k; rw [Nat.zero_add]
  have e3:i=(dualT bs t).length:=by rw [dualT,List.length_map]; omega
  show K (AV.sl 3 i fun k=>(fun j=>encM ((dualT bs t).getD j default)) (0+k))
  rw [e2,e3]
  exact h
def C28:List AV→(AV→Prop)→Prop:=con (X:=Sy) (fun x=>[house x.p x.bs,slM x.t,.int .i64 x.c]) (fun x=>termI ⟨x.p,x.bs⟩ x.t∧i64r x.c) fun x K=>K (.bool (decide (termOk ⟨x.p,x.bs⟩ x.t) && decide (crowd x.p x.c) && says x.bs x.c x.t))
theorem F28:FF 152 C28:=by
 refine fitE [(143,C38),(139,C54),(163,C39)] (by simp only [List.mem_cons,List.not_mem_nil,or_false]; rintro _ (rfl|rfl|rfl) <;> first|exact F38|exact F54|exact F39) Tryz.f152 ⟨rfl,by decide +kernel,by decide +kernel⟩ (fun _ _ _ hk h=>hk _ h) ?_
 rintro ⟨p,bs,t,c⟩ K ⟨hI,hc⟩ h
 refine ⟨Nat.le_of_ble_eq_true rfl,?_⟩
 dsimp only at h hI hc ⊢
 repeat' (first|refine vz ?_|(conv=>whnf); first|with_reducible first|refine Sp.mk ?_ ?_|refine br_d (fun _=>?_) fun _=>?_|refine vM (fun _=>?_) fun _=>?_)
 refine ⟨(⟨p,bs⟩,t),?_,⟨hI⟩,?_⟩
 ·exact wq
 repeat' (first|refine vz ?_|(conv=>whnf); first|with_reducible first|refine Sp.mk ?_ ?_|refine br_d (fun _=>?_) fun _=>?_|refine vM (fun _=>?_) fun _=>?_)
 ·rename_i hO
  have hO':termOk ⟨p,bs⟩ t:=hO
  rw [decide_eq_true hO',Bool.true_and] at h
  have hp:=hO'.1.1
  refine ⟨(p,c),?_,⟨hI.1.1,hc⟩,?_⟩
  ·exact wq
  repeat' (first|refine vz ?_|(conv=>whnf); first|with_reducible first|refine Sp.mk ?_ ?_|refine br_d (fun _=>?_) fun _=>?_|refine vM (fun _=>?_) fun _=>?_)
  ·rename_i hC
   have hC':crowd p c:=hC
   rw [decide_eq_true hC',Bool.true_and] at h
   have pl:=pw_le hC'.1
   refine ⟨⟨p,bs,t,c⟩,?_,⟨sayOk_of hO' c hC'.2.1 (by omega),hO'.2.1⟩,?_⟩
   ·exact wq
   repeat' (first|refine vz ?_|(conv=>whnf); first|with_reducible first|refine Sp.mk ?_ ?_|refine br_d (fun _=>?_) fun _=>?_|refine vM (fun _=>?_) fun _=>?_)
   exact h
  ·rename_i hC
   rw [decide_eq_false (show ¬ crowd p c from hC),Bool.false_and] at h
   exact h
 ·rename_i hO
  rw [decide_eq_false (show ¬ termOk ⟨p,bs⟩ t from hO),Bool.false_and,Bool.false_and] at h
  exact h
def idleF (bs:List Int) (t:List Mark) (n:Nat):Nat→Int
 |0=>0
 |k+1=>if (swl bs t k n).length=0 then add (idleF bs t n k) k else idleF bs t n k
theorem idle_small:∀ k,k<6→∀ c,c<2 ^ k→0≤add (c:Nat) (k:Nat)∧add (c:Nat) (k:Nat)<(2 ^ (k+1):Nat):=by decide +kernel
theorem idle_lt (bs:List Int) (t:List Mark) (n:Nat):∀ k,k≤6→0≤idleF bs t n k∧idleF bs t n k<(2 ^ k:Nat)
 |0,_=>⟨Int.le_refl 0,by show (0:Int)<1; decide⟩
 |k+1,h=>by
  have:=idle_lt bs t n k (by omega)
  unfold idleF
  split
  ·have e:=idle_small k (by omega) (idleF bs t n k).toNat (by omega)
   rwa [Int.toNat_of_nonneg this.1] at e
  ·rw [Nat.pow_succ]; omega
def C24:List AV→(AV→Prop)→Prop:=con (X:=House × List Mark) (fun x=>[enH x.1,slM x.2]) (fun x=>termI x.1 x.2∧termOk x.1 x.2) fun x K=>K (.int .i64 (idleF x.1.bs x.2 (pw x.1.p).toNat x.1.p.toNat))
theorem F24:FF 158 C24:=by
 refine fitE [(143,C38),(179,C43)] (by simp only [List.mem_cons,List.not_mem_nil,or_false]; rintro _ (rfl|rfl) <;> first|exact F38|exact F43) Tryz.f158 ⟨rfl,by decide +kernel,by decide +kernel⟩ (fun _ _ _ hk h=>hk _ h) ?_
 rintro ⟨⟨p,bs⟩,t⟩ K ⟨hI,hO⟩ h
 refine ⟨Nat.le_of_ble_eq_true rfl,?_⟩
 dsimp only [enH] at h hI hO ⊢
 have pp:people p:=hO.1.1
 have hp1:=pp.1
 have hp6:=pp.2
 repeat' (first|refine vz ?_|(conv=>whnf); first|with_reducible first|refine Sp.mk ?_ ?_|refine br_d (fun _=>?_) fun _=>?_|refine vM (fun _=>?_) fun _=>?_)
 refine ⟨(⟨p,bs⟩,t),?_,⟨hI⟩,?_⟩
 ·exact wq
 repeat' (first|refine vz ?_|(conv=>whnf); first|with_reducible first|refine Sp.mk ?_ ?_|refine br_d (fun _=>?_) fun _=>?_|refine vM (fun _=>?_) fun _=>?_)
 refine Lp.mk ⟨Nat,fun i=>[(1,slM t),(2,.ptr 0 0),(5,.int .i64 (idleF bs t (pw p).toNat i)),(12,.int .i64 p),(13,.int .i64 i)],
  fun i=>[.box [.int .i64 p,slI bs]],fun i=>i≤p.toNat,fun i=>p.toNat-i,⟨0,Nat.zero_le _,⟨⟨[some 0],[],rfl,rfl,?_,?_⟩⟩⟩,?_⟩
 ·exact wq
 ·exact wq
 intro i i1
 dsimp only
 have hl:=idle_lt bs t (pw p).toNat i (by omega)
 repeat' (first|refine vz ?_|(conv=>whnf); first|with_reducible first|refine Sp.mk ?_ ?_|refine br_d (fun _=>?_) fun _=>?_|refine vM (fun _=>?_) fun _=>?_)
 ·refine ⟨⟨p,bs,t,i⟩,?_,⟨pp,sayOk_of hO,hO.2.1,by show (0:Int)≤i; omega,by show (i:Int)<6; omega⟩,?_⟩
  ·exact wq
  dsimp only
  repeat' (first|refine vz ?_|(conv=>whnf); first|with_reducible refine Wr.ex (wshw (by omega) (by omega)) ?_|with_reducible first|refine Sp.mk ?_ ?_|refine br_d (fun _=>?_) fun _=>?_|refine vM (fun _=>?_) fun _=>?_)
  ·rename_i h0
   refine ⟨i+1,by show i+1≤p.toNat; omega,by show p.toNat-(i+1)<p.toNat-i; omega,⟨⟨[some 0],[],rfl,rfl,?_,?_⟩⟩⟩
   ·repeat' ((conv=>whnf); first|with_reducible exact True.intro|exact vW|with_reducible refine And.intro ?_ ?_)
    all_goals exact Chk.mk (by rw [idleF,if_pos (by omega)]; rfl)
   ·exact wq
  ·rename_i h0
   refine ⟨i+1,by show i+1≤p.toNat; omega,by show p.toNat-(i+1)<p.toNat-i; omega,⟨⟨[some 0],[],rfl,rfl,?_,?_⟩⟩⟩
   ·repeat' ((conv=>whnf); first|with_reducible exact True.intro|exact vW|with_reducible refine And.intro ?_ ?_)
    all_goals exact Chk.mk (by rw [idleF,if_neg (by omega)])
   ·exact wq
 ·rw [show i=p.toNat by omega]
  exact h
end Go.Proofs.YtgdbhjmpkkbnnaaGreatDoor.Vc
end
