/- Part QP: lines that are drawn. -/
import Derived.Test.YtapeebjjljohdaaGreatDoorVc8
section
namespace Go.Proofs.YtapeebjjljohdaaGreatDoor.Vc
open Go.Proofs
set_option maxRecDepth 100000
set_option maxHeartbeats 4000000
theorem lits (z:List AV):∀ (l:List ByteArray) (k:Nat),k<l.length→(l.map fun s=>[AV.str s]).getD k z=[.str (l.getD k ⟨#[]⟩)]
 |[],k,h=>absurd h (Nat.not_lt_zero _)
 |s :: l,0,_=>rfl
 |s :: l,k+1,h=>by
  have:=lits z l k (by simpa using h)
  simpa using this
theorem lit_sz {l:List ByteArray} (h:∀ s∈l,s.size≤20) {k:Int} (h0:0≤k) (hk:k<l.length) (z:List AV):∃ v:ByteArray,v.size≤20∧(l.map fun s=>[AV.str s]).getD (0+k.toNat) z=[.str v]:=by
 rw [Nat.zero_add]
 exact ⟨_,h _ (getD_mem' (l:=l) (i:=k.toNat) (d:=⟨#[]⟩) (by omega)),lits z l k.toNat (by omega)⟩
def lit7:List ByteArray:=[⟨#[108,101,97,115,116,32]⟩,⟨#[99,111,117,110,116,32]⟩,⟨#[110,101,101,100,101,100,32]⟩,⟨#[105,100,108,101,32]⟩,⟨#[100,117,97,108,32]⟩,⟨#[100,101,99,105,115,105,118,101,32]⟩,⟨#[99,108,97,115,104,32]⟩]
def lit3:List ByteArray:=[⟨#[99,111,110,115,101,110,116,32]⟩,⟨#[115,119,105,110,103,115,32]⟩,⟨#[112,105,118,111,116,115,32]⟩]
def lit18:List ByteArray:=[⟨#[]⟩,⟨#[98,111,100,121]⟩,⟨#[98,111,100,121,32,120]⟩,⟨#[114,117,108,101]⟩,⟨#[114,117,108,101,32,40,65,49,41]⟩,⟨#[97,109,101,110,100,32,48,32,51]⟩,⟨#[100,114,111,112,32,48]⟩,⟨#[108,101,97,115,116]⟩,⟨#[108,101,97,115,116,32,120]⟩,⟨#[108,101,97,115,116,32,57]⟩,⟨#[100,117,108,108,32,48]⟩,⟨#[99,111,110,115,101,110,116,32,48]⟩,⟨#[99,111,110,115,101,110,116,32,57,32,49]⟩,⟨#[99,111,110,115,101,110,116,32,48,32,54,52]⟩,⟨#[115,119,105,110,103,115,32,48,32,57]⟩,⟨#[112,105,118,111,116,115,32,48,32,57]⟩,⟨#[115,119,105,110,103,32,48,32,48]⟩,⟨#[32,112,108,97,99,101]⟩]
theorem l7 {k:Int} (h0:0≤k) (hk:k<7) (z:List AV):∃ v:ByteArray,v.size≤20∧[[AV.str ⟨#[108,101,97,115,116,32]⟩],[.str ⟨#[99,111,117,110,116,32]⟩],[.str ⟨#[110,101,101,100,101,100,32]⟩],[.str ⟨#[105,100,108,101,32]⟩],[.str ⟨#[100,117,97,108,32]⟩],[.str ⟨#[100,101,99,105,115,105,118,101,32]⟩],[.str ⟨#[99,108,97,115,104,32]⟩]].getD (0+k.toNat) z=[.str v]:=lit_sz (l:=lit7) (by decide) h0 hk z
theorem l3 {k:Int} (h0:0≤k) (hk:k<3) (z:List AV):∃ v:ByteArray,v.size≤20∧[[AV.str ⟨#[99,111,110,115,101,110,116,32]⟩],[.str ⟨#[115,119,105,110,103,115,32]⟩],[.str ⟨#[112,105,118,111,116,115,32]⟩]].getD (0+k.toNat) z=[.str v]:=lit_sz (l:=lit3) (by decide) h0 hk z
theorem l18 {k:Int} (h0:0≤k) (hk:k<18) (z:List AV):∃ v:ByteArray,v.size≤20∧[[AV.str ⟨#[]⟩],[.str ⟨#[98,111,100,121]⟩],[.str ⟨#[98,111,100,121,32,120]⟩],[.str ⟨#[114,117,108,101]⟩],[.str ⟨#[114,117,108,101,32,40,65,49,41]⟩],[.str ⟨#[97,109,101,110,100,32,48,32,51]⟩],[.str ⟨#[100,114,111,112,32,48]⟩],[.str ⟨#[108,101,97,115,116]⟩],[.str ⟨#[108,101,97,115,116,32,120]⟩],[.str ⟨#[108,101,97,115,116,32,57]⟩],[.str ⟨#[100,117,108,108,32,48]⟩],[.str ⟨#[99,111,110,115,101,110,116,32,48]⟩],[.str ⟨#[99,111,110,115,101,110,116,32,57,32,49]⟩],[.str ⟨#[99,111,110,115,101,110,116,32,48,32,54,52]⟩],[.str ⟨#[115,119,105,110,103,115,32,48,32,57]⟩],[.str ⟨#[112,105,118,111,116,115,32,48,32,57]⟩],[.str ⟨#[115,119,105,110,103,32,48,32,48]⟩],[.str ⟨#[32,112,108,97,99,101]⟩]].getD (0+k.toNat) z=[.str v]:=lit_sz (l:=lit18) (by decide) h0 hk z
def C351:GC:=conG (X:=Pr) (fun x=>[.ptr 0 0,enPl x.x]) (fun x=>[rdO x.r.b x.r.p]) (fun x=>x.r.okn 440000000∧placeS x.x) fun x K=>∀ (s:ByteArray) (p':Int),x.r.p≤p'→p'≤x.r.p+300→s.size≤300000→K (.str s) [rdO x.r.b p']
theorem F351:GG 39 C351:=by
 refine fitG [(72,C106),(73,C105)] (by simp only [List.mem_cons,List.not_mem_nil,or_false]; rintro _ (rfl|rfl) <;> first|exact F106|exact F105) [(38,C52),(71,C184)] (by simp only [List.mem_cons,List.not_mem_nil,or_false]; rintro _ (rfl|rfl) <;> first|exact F52|exact F184) Tryz.f39 ⟨rfl,by decide +kernel,by decide +kernel⟩ (fun _ _ _ hk h s p' a b c=>hk _ _ (h s p' a b c)) ?_
 rintro ⟨⟨b,p⟩,⟨q,bs,rs⟩⟩ K ⟨⟨h1,h2,h3,h4⟩,hS⟩ h
 refine ⟨Nat.le_of_ble_eq_true rfl,?_⟩
 have h7:=hS.2.2
 dsimp only [enPl,plC] at h h1 h2 h3 h4 h7 ⊢
 repeat' (first|refine vz ?_|(conv=>whnf); first|with_reducible first|refine Sp.mk ?_ ?_|refine br_d (fun _=>?_) fun _=>?_|refine vM (fun _=>?_) fun _=>?_)
 refine ⟨_,_,[0],[],rfl,?_,?_,(⟨b,p⟩,7),rfl,rfl,⟨⟨h1,h2,?_,?_⟩,?_⟩,?_⟩
 ·repeat' ((conv=>whnf); first|with_reducible exact True.intro|exact vW|with_reducible refine And.intro ?_ ?_)
  try exact Chk.mk (by rw [pw_sh (by assumption)])
 ·exact wq
 ·dsimp only; omega
 ·dsimp only; omega
 ·unfold i64r; dsimp only; omega
 intro k p1 a0 a1 a2
 dsimp only at a0 a1 a2
 repeat' (first|refine vz ?_|(conv=>whnf); first|with_reducible first|refine Sp.mk ?_ ?_|refine br_d (fun _=>?_) fun _=>?_|refine vM (fun _=>?_) fun _=>?_)
 ·skip
  refine ⟨_,_,[some 0],[],rfl,rfl,?_,?_,h ⟨#[112,108,97,99,101]⟩ p1 (by omega) (by omega) (by decide)⟩
  ·exact wq
  ·exact wq
 rotate_left 2
 ·rename_i q0 q1 q2 q3
  repeat' (first|refine vz ?_|(conv=>whnf); first|with_reducible first|refine Sp.mk ?_ ?_|refine br_d (fun _=>?_) fun _=>?_|refine vM (fun _=>?_) fun _=>?_)
  refine ⟨_,_,[0],[],rfl,?_,?_,(⟨b,p1⟩,18),rfl,rfl,⟨⟨h1,h2,?_,?_⟩,?_⟩,?_⟩
  ·repeat' ((conv=>whnf); first|with_reducible exact True.intro|exact vW|with_reducible refine And.intro ?_ ?_)
   try exact Chk.mk (by rw [pw_sh (by assumption)])
  ·exact wq
  ·dsimp only; omega
  ·dsimp only; omega
  ·unfold i64r; dsimp only; omega
  intro k2 p2 c0 c1 c2
  dsimp only at c0 c1 c2
  obtain ⟨v,v0,hv⟩:=l18 (c1 (by decide)).1 (c1 (by decide)).2 (lookT TT 9).z
  repeat' (first|refine vz ?_|(conv=>whnf); first|with_reducible first|refine Sp.mk ?_ ?_|refine br_d (fun _=>?_) fun _=>?_|refine vM (fun _=>?_) fun _=>?_)
  dsimp only [List.drop]
  rw [hv]
  repeat' (first|refine vz ?_|(conv=>whnf); first|with_reducible first|refine Sp.mk ?_ ?_|refine br_d (fun _=>?_) fun _=>?_|refine vM (fun _=>?_) fun _=>?_)
  refine ⟨_,_,[some 0],[],rfl,rfl,?_,?_,h v p2 (by omega) (by omega) (by omega)⟩
  ·exact wq
  ·exact wq
 rotate_left 2
 ·refine ⟨_,_,[0],[],rfl,?_,?_,⟨⟨b,p1⟩,⟨q,bs,rs⟩⟩,rfl,rfl,⟨⟨h1,h2,by dsimp only; omega,by dsimp only; omega⟩,hS⟩,?_⟩
  ·exact wq
  ·exact wq
  rintro ⟨k',x,y,w⟩ p2 c1 c2 ha
  dsimp only [ded,encD] at c1 c2 ⊢
  have hw:=ha.w0
  repeat' (first|refine vz ?_|(conv=>whnf); first|with_reducible first|refine Sp.mk ?_ ?_|refine br_d (fun _=>?_) fun _=>?_|refine vM (fun _=>?_) fun _=>?_)
  refine ⟨⟨k',x,y,w⟩,?_,⟨by dsimp only at hw ⊢; omega⟩,?_⟩
  ·exact wq
  repeat' (first|refine vz ?_|(conv=>whnf); first|with_reducible first|refine Sp.mk ?_ ?_|refine br_d (fun _=>?_) fun _=>?_|refine vM (fun _=>?_) fun _=>?_)
  have hsz:=deedT_size ⟨k',x,y,w⟩
  refine ⟨_,_,[some 0],[],rfl,rfl,?_,?_,h (deedT ⟨k',x,y,w⟩) p2 (by omega) (by omega) (by dsimp only at hsz hw; omega)⟩
  ·exact wq
  ·exact wq
 ·all_goals
   refine Dr.mk ⟨(.rd 1 (.rd 5 (.rd 6 (.rd 7 (.rd 8 (.rd 9 (.ef 0 (.ef 2 (.rd 3 (.rd 4 (.ef 10 (.ef 11 (.rd 12 (.rd 13 .dn)) .no) .no))) .no) (.ef 2 (.ef 0 (.rd 3 (.rd 4 (.ef 10 (.ef 11 (.rd 12 (.rd 13 .dn)) .no) .no))) (.ef 10 (.ef 0 (.rd 3 (.rd 4 (.ef 11 (.rd 12 (.rd 13 .dn)) .no))) (.ef 11 (.ef 0 (.rd 3 (.rd 4 (.rd 12 (.rd 13 .dn)))) .no) .no)) .no)) .no)))))))),by decide +kernel,?_⟩
   repeat' (first|refine vz ?_|(conv=>whnf); first|with_reducible first|refine Sp.mk ?_ ?_|refine br_d (fun _=>?_) fun _=>?_|refine vM (fun _=>?_) fun _=>?_)
  all_goals
   refine ⟨_,_,[0],[],rfl,?_,?_,(⟨b,p1⟩,7),rfl,rfl,⟨⟨h1,h2,?_,?_⟩,?_⟩,?_⟩
   ·repeat' ((conv=>whnf); first|with_reducible exact True.intro|exact vW|with_reducible refine And.intro ?_ ?_)
    try exact Chk.mk (by rw [pw_sh (by assumption)])
   ·exact wq
   ·dsimp only; omega
   ·dsimp only; omega
   ·unfold i64r; dsimp only; omega
   intro k2 p2 c0 c1 c2
   dsimp only at c0 c1 c2
   obtain ⟨v,v0,hv⟩:=l7 (c1 (by decide)).1 (c1 (by decide)).2 (lookT TT 9).z
   repeat' (first|refine vz ?_|(conv=>whnf); first|with_reducible first|refine Sp.mk ?_ ?_|refine br_d (fun _=>?_) fun _=>?_|refine vM (fun _=>?_) fun _=>?_)
  all_goals try
   dsimp only [List.drop]
   rw [hv]
   repeat' (first|refine vz ?_|(conv=>whnf); first|with_reducible first|refine Sp.mk ?_ ?_|refine br_d (fun _=>?_) fun _=>?_|refine vM (fun _=>?_) fun _=>?_)
  all_goals
   refine ⟨_,_,[0],[],rfl,?_,?_,(⟨b,p2⟩,((rs.length:Int)+1)),rfl,rfl,⟨⟨h1,h2,?_,?_⟩,?_⟩,?_⟩
   ·repeat' ((conv=>whnf); first|with_reducible exact True.intro|exact vW|with_reducible refine And.intro ?_ ?_)
    try exact Chk.mk (by rw [pw_sh (by assumption)])
   ·exact wq
   ·dsimp only; omega
   ·dsimp only; omega
   ·unfold i64r; dsimp only; omega
   intro k3 p3 d0 d1 d2
   dsimp only at d0 d1 d2
   repeat' (first|refine vz ?_|(conv=>whnf); first|with_reducible first|refine Sp.mk ?_ ?_|refine br_d (fun _=>?_) fun _=>?_|refine vM (fun _=>?_) fun _=>?_)
  all_goals try
   dsimp only [List.drop]
   rw [hv]
   repeat' (first|refine vz ?_|(conv=>whnf); first|with_reducible first|refine Sp.mk ?_ ?_|refine br_d (fun _=>?_) fun _=>?_|refine vM (fun _=>?_) fun _=>?_)
  all_goals
   have d3:=d1 (by omega)
   refine ⟨k3,?_,⟨by omega,by omega⟩,?_⟩
   ·exact wq
   have hn:=num_le k3
   repeat' (first|refine vz ?_|(conv=>whnf); first|with_reducible first|refine Sp.mk ?_ ?_|refine br_d (fun _=>?_) fun _=>?_|refine vM (fun _=>?_) fun _=>?_)
  all_goals try
   dsimp only [List.drop]
   rw [hv]
   repeat' (first|refine vz ?_|(conv=>whnf); first|with_reducible first|refine Sp.mk ?_ ?_|refine br_d (fun _=>?_) fun _=>?_|refine vM (fun _=>?_) fun _=>?_)
  all_goals
   have hz:(v ++ num k3).size=v.size+(num k3).size:=ByteArray.size_append
   refine ⟨_,_,[some 0],[],rfl,rfl,?_,?_,h (v ++ num k3) p3 (by omega) (by omega) (by omega)⟩
   ·exact wq
   ·exact wq
 ·all_goals
   refine Dr.mk ⟨(.rd 1 (.rd 5 (.rd 6 (.rd 7 (.rd 8 (.rd 9 (.ef 0 (.ef 2 (.rd 3 (.rd 4 (.ef 10 (.ef 11 (.rd 12 (.rd 13 .dn)) .no) .no))) .no) (.ef 2 (.ef 0 (.rd 3 (.rd 4 (.ef 10 (.ef 11 (.rd 12 (.rd 13 .dn)) .no) .no))) (.ef 10 (.ef 0 (.rd 3 (.rd 4 (.ef 11 (.rd 12 (.rd 13 .dn)) .no))) (.ef 11 (.ef 0 (.rd 3 (.rd 4 (.rd 12 (.rd 13 .dn)))) .no) .no)) .no)) .no)))))))),by decide +kernel,?_⟩
   repeat' (first|refine vz ?_|(conv=>whnf); first|with_reducible first|refine Sp.mk ?_ ?_|refine br_d (fun _=>?_) fun _=>?_|refine vM (fun _=>?_) fun _=>?_)
  all_goals
   refine ⟨_,_,[0],[],rfl,?_,?_,(⟨b,p1⟩,7),rfl,rfl,⟨⟨h1,h2,?_,?_⟩,?_⟩,?_⟩
   ·repeat' ((conv=>whnf); first|with_reducible exact True.intro|exact vW|with_reducible refine And.intro ?_ ?_)
    try exact Chk.mk (by rw [pw_sh (by assumption)])
   ·exact wq
   ·dsimp only; omega
   ·dsimp only; omega
   ·unfold i64r; dsimp only; omega
   intro k2 p2 c0 c1 c2
   dsimp only at c0 c1 c2
   obtain ⟨v,v0,hv⟩:=l7 (c1 (by decide)).1 (c1 (by decide)).2 (lookT TT 9).z
   repeat' (first|refine vz ?_|(conv=>whnf); first|with_reducible first|refine Sp.mk ?_ ?_|refine br_d (fun _=>?_) fun _=>?_|refine vM (fun _=>?_) fun _=>?_)
  all_goals try
   dsimp only [List.drop]
   rw [hv]
   repeat' (first|refine vz ?_|(conv=>whnf); first|with_reducible first|refine Sp.mk ?_ ?_|refine br_d (fun _=>?_) fun _=>?_|refine vM (fun _=>?_) fun _=>?_)
  all_goals
   refine ⟨_,_,[0],[],rfl,?_,?_,(⟨b,p2⟩,((rs.length:Int)+1)),rfl,rfl,⟨⟨h1,h2,?_,?_⟩,?_⟩,?_⟩
   ·repeat' ((conv=>whnf); first|with_reducible exact True.intro|exact vW|with_reducible refine And.intro ?_ ?_)
    try exact Chk.mk (by rw [pw_sh (by assumption)])
   ·exact wq
   ·dsimp only; omega
   ·dsimp only; omega
   ·unfold i64r; dsimp only; omega
   intro k3 p3 d0 d1 d2
   dsimp only at d0 d1 d2
   repeat' (first|refine vz ?_|(conv=>whnf); first|with_reducible first|refine Sp.mk ?_ ?_|refine br_d (fun _=>?_) fun _=>?_|refine vM (fun _=>?_) fun _=>?_)
  all_goals try
   dsimp only [List.drop]
   rw [hv]
   repeat' (first|refine vz ?_|(conv=>whnf); first|with_reducible first|refine Sp.mk ?_ ?_|refine br_d (fun _=>?_) fun _=>?_|refine vM (fun _=>?_) fun _=>?_)
  all_goals
   have d3:=d1 (by omega)
   refine ⟨k3,?_,⟨by omega,by omega⟩,?_⟩
   ·exact wq
   have hn:=num_le k3
   repeat' (first|refine vz ?_|(conv=>whnf); first|with_reducible first|refine Sp.mk ?_ ?_|refine br_d (fun _=>?_) fun _=>?_|refine vM (fun _=>?_) fun _=>?_)
  all_goals try
   dsimp only [List.drop]
   rw [hv]
   repeat' (first|refine vz ?_|(conv=>whnf); first|with_reducible first|refine Sp.mk ?_ ?_|refine br_d (fun _=>?_) fun _=>?_|refine vM (fun _=>?_) fun _=>?_)
  all_goals
   have hz:(v ++ num k3).size=v.size+(num k3).size:=ByteArray.size_append
   refine ⟨_,_,[some 0],[],rfl,rfl,?_,?_,h (v ++ num k3) p3 (by omega) (by omega) (by omega)⟩
   ·exact wq
   ·exact wq
 ·all_goals
   refine Dr.mk ⟨(.rd 1 (.rd 5 (.rd 6 (.rd 7 (.rd 8 (.rd 9 (.rd 14 (.ef 0 (.ef 2 (.rd 3 (.rd 4 (.ef 10 (.ef 11 (.rd 12 (.rd 13 (.ef 15 (.ef 16 (.rd 17 (.rd 18 .dn)) .no) .no))) .no) .no))) .no) (.ef 2 (.ef 0 (.rd 3 (.rd 4 (.ef 10 (.ef 11 (.rd 12 (.rd 13 (.ef 15 (.ef 16 (.rd 17 (.rd 18 .dn)) .no) .no))) .no) .no))) (.ef 10 (.ef 0 (.rd 3 (.rd 4 (.ef 11 (.rd 12 (.rd 13 (.ef 15 (.ef 16 (.rd 17 (.rd 18 .dn)) .no) .no))) .no))) (.ef 11 (.ef 0 (.rd 3 (.rd 4 (.rd 12 (.rd 13 (.ef 15 (.ef 16 (.rd 17 (.rd 18 .dn)) .no) .no))))) (.ef 15 (.ef 0 (.rd 3 (.rd 4 (.rd 12 (.rd 13 (.ef 16 (.rd 17 (.rd 18 .dn)) .no))))) (.ef 16 (.ef 0 (.rd 3 (.rd 4 (.rd 12 (.rd 13 (.rd 17 (.rd 18 .dn)))))) .no) .no)) .no)) .no)) .no)) .no))))))))),by decide +kernel,?_⟩
   repeat' (first|refine vz ?_|(conv=>whnf); first|with_reducible first|refine Sp.mk ?_ ?_|refine br_d (fun _=>?_) fun _=>?_|refine vM (fun _=>?_) fun _=>?_)
  all_goals
   refine ⟨_,_,[0],[],rfl,?_,?_,(⟨b,p1⟩,3),rfl,rfl,⟨⟨h1,h2,?_,?_⟩,?_⟩,?_⟩
   ·repeat' ((conv=>whnf); first|with_reducible exact True.intro|exact vW|with_reducible refine And.intro ?_ ?_)
    try exact Chk.mk (by rw [pw_sh (by assumption)])
   ·exact wq
   ·dsimp only; omega
   ·dsimp only; omega
   ·unfold i64r; dsimp only; omega
   intro k2 p2 c0 c1 c2
   dsimp only at c0 c1 c2
   obtain ⟨v,v0,hv⟩:=l3 (c1 (by decide)).1 (c1 (by decide)).2 (lookT TT 9).z
   repeat' (first|refine vz ?_|(conv=>whnf); first|with_reducible first|refine Sp.mk ?_ ?_|refine br_d (fun _=>?_) fun _=>?_|refine vM (fun _=>?_) fun _=>?_)
  all_goals try
   dsimp only [List.drop]
   rw [hv]
   repeat' (first|refine vz ?_|(conv=>whnf); first|with_reducible first|refine Sp.mk ?_ ?_|refine br_d (fun _=>?_) fun _=>?_|refine vM (fun _=>?_) fun _=>?_)
  all_goals
   refine ⟨_,_,[0],[],rfl,?_,?_,(⟨b,p2⟩,((rs.length:Int)+1)),rfl,rfl,⟨⟨h1,h2,?_,?_⟩,?_⟩,?_⟩
   ·repeat' ((conv=>whnf); first|with_reducible exact True.intro|exact vW|with_reducible refine And.intro ?_ ?_)
    try exact Chk.mk (by rw [pw_sh (by assumption)])
   ·exact wq
   ·dsimp only; omega
   ·dsimp only; omega
   ·unfold i64r; dsimp only; omega
   intro k3 p3 d0 d1 d2
   dsimp only at d0 d1 d2
   repeat' (first|refine vz ?_|(conv=>whnf); first|with_reducible first|refine Sp.mk ?_ ?_|refine br_d (fun _=>?_) fun _=>?_|refine vM (fun _=>?_) fun _=>?_)
  all_goals try
   dsimp only [List.drop]
   rw [hv]
   repeat' (first|refine vz ?_|(conv=>whnf); first|with_reducible first|refine Sp.mk ?_ ?_|refine br_d (fun _=>?_) fun _=>?_|refine vM (fun _=>?_) fun _=>?_)
  all_goals
   have d3:=d1 (by omega)
   refine ⟨k3,?_,⟨by omega,by omega⟩,?_⟩
   ·exact wq
   have hn:=num_le k3
   have hz:(v ++ num k3).size=v.size+(num k3).size:=ByteArray.size_append
   have hl1:(⟨#[32]⟩:ByteArray).size=1:=rfl
   have hz2:(v ++ num k3 ++ ⟨#[32]⟩).size=(v ++ num k3).size+1:=ByteArray.size_append
   repeat' (first|refine vz ?_|(conv=>whnf); first|with_reducible first|refine Sp.mk ?_ ?_|refine br_d (fun _=>?_) fun _=>?_|refine vM (fun _=>?_) fun _=>?_)
  all_goals try
   dsimp only [List.drop]
   rw [hv]
   repeat' (first|refine vz ?_|(conv=>whnf); first|with_reducible first|refine Sp.mk ?_ ?_|refine br_d (fun _=>?_) fun _=>?_|refine vM (fun _=>?_) fun _=>?_)
  all_goals
   refine ⟨_,_,[0],[],rfl,?_,?_,(⟨b,p3⟩,9),rfl,rfl,⟨⟨h1,h2,?_,?_⟩,?_⟩,?_⟩
   ·repeat' ((conv=>whnf); first|with_reducible exact True.intro|exact vW|with_reducible refine And.intro ?_ ?_)
    try exact Chk.mk (by rw [pw_sh (by assumption)])
   ·exact wq
   ·dsimp only; omega
   ·dsimp only; omega
   ·unfold i64r; dsimp only; omega
   intro k4 p4 e0 e1 e2
   dsimp only at e0 e1 e2
   repeat' (first|refine vz ?_|(conv=>whnf); first|with_reducible first|refine Sp.mk ?_ ?_|refine br_d (fun _=>?_) fun _=>?_|refine vM (fun _=>?_) fun _=>?_)
  all_goals try
   dsimp only [List.drop]
   rw [hv]
   repeat' (first|refine vz ?_|(conv=>whnf); first|with_reducible first|refine Sp.mk ?_ ?_|refine br_d (fun _=>?_) fun _=>?_|refine vM (fun _=>?_) fun _=>?_)
  all_goals
   have e3:=e1 (by decide)
   refine ⟨k4,?_,⟨by omega,by omega⟩,?_⟩
   ·exact wq
   have hn4:=num_le k4
   have hz4:(v ++ num k3 ++ ⟨#[32]⟩ ++ num k4).size=(v ++ num k3 ++ ⟨#[32]⟩).size+(num k4).size:=ByteArray.size_append
   repeat' (first|refine vz ?_|(conv=>whnf); first|with_reducible first|refine Sp.mk ?_ ?_|refine br_d (fun _=>?_) fun _=>?_|refine vM (fun _=>?_) fun _=>?_)
  all_goals try
   dsimp only [List.drop]
   rw [hv]
   repeat' (first|refine vz ?_|(conv=>whnf); first|with_reducible first|refine Sp.mk ?_ ?_|refine br_d (fun _=>?_) fun _=>?_|refine vM (fun _=>?_) fun _=>?_)
  all_goals
   refine ⟨_,_,[some 0],[],rfl,rfl,?_,?_,h (v ++ num k3 ++ ⟨#[32]⟩ ++ num k4) p4 (by omega) (by omega) (by omega)⟩
   ·exact wq
   ·exact wq
 ·all_goals
   refine Dr.mk ⟨(.rd 1 (.rd 5 (.rd 6 (.rd 7 (.rd 8 (.rd 9 (.rd 14 (.ef 0 (.ef 2 (.rd 3 (.rd 4 (.ef 10 (.ef 11 (.rd 12 (.rd 13 (.ef 15 (.ef 16 (.rd 17 (.rd 18 .dn)) .no) .no))) .no) .no))) .no) (.ef 2 (.ef 0 (.rd 3 (.rd 4 (.ef 10 (.ef 11 (.rd 12 (.rd 13 (.ef 15 (.ef 16 (.rd 17 (.rd 18 .dn)) .no) .no))) .no) .no))) (.ef 10 (.ef 0 (.rd 3 (.rd 4 (.ef 11 (.rd 12 (.rd 13 (.ef 15 (.ef 16 (.rd 17 (.rd 18 .dn)) .no) .no))) .no))) (.ef 11 (.ef 0 (.rd 3 (.rd 4 (.rd 12 (.rd 13 (.ef 15 (.ef 16 (.rd 17 (.rd 18 .dn)) .no) .no))))) (.ef 15 (.ef 0 (.rd 3 (.rd 4 (.rd 12 (.rd 13 (.ef 16 (.rd 17 (.rd 18 .dn)) .no))))) (.ef 16 (.ef 0 (.rd 3 (.rd 4 (.rd 12 (.rd 13 (.rd 17 (.rd 18 .dn)))))) .no) .no)) .no)) .no)) .no)) .no))))))))),by decide +kernel,?_⟩
   repeat' (first|refine vz ?_|(conv=>whnf); first|with_reducible first|refine Sp.mk ?_ ?_|refine br_d (fun _=>?_) fun _=>?_|refine vM (fun _=>?_) fun _=>?_)
  all_goals
   refine ⟨_,_,[0],[],rfl,?_,?_,(⟨b,p1⟩,3),rfl,rfl,⟨⟨h1,h2,?_,?_⟩,?_⟩,?_⟩
   ·repeat' ((conv=>whnf); first|with_reducible exact True.intro|exact vW|with_reducible refine And.intro ?_ ?_)
    try exact Chk.mk (by rw [pw_sh (by assumption)])
   ·exact wq
   ·dsimp only; omega
   ·dsimp only; omega
   ·unfold i64r; dsimp only; omega
   intro k2 p2 c0 c1 c2
   dsimp only at c0 c1 c2
   obtain ⟨v,v0,hv⟩:=l3 (c1 (by decide)).1 (c1 (by decide)).2 (lookT TT 9).z
   repeat' (first|refine vz ?_|(conv=>whnf); first|with_reducible first|refine Sp.mk ?_ ?_|refine br_d (fun _=>?_) fun _=>?_|refine vM (fun _=>?_) fun _=>?_)
  all_goals try
   dsimp only [List.drop]
   rw [hv]
   repeat' (first|refine vz ?_|(conv=>whnf); first|with_reducible first|refine Sp.mk ?_ ?_|refine br_d (fun _=>?_) fun _=>?_|refine vM (fun _=>?_) fun _=>?_)
  all_goals
   refine ⟨_,_,[0],[],rfl,?_,?_,(⟨b,p2⟩,((rs.length:Int)+1)),rfl,rfl,⟨⟨h1,h2,?_,?_⟩,?_⟩,?_⟩
   ·repeat' ((conv=>whnf); first|with_reducible exact True.intro|exact vW|with_reducible refine And.intro ?_ ?_)
    try exact Chk.mk (by rw [pw_sh (by assumption)])
   ·exact wq
   ·dsimp only; omega
   ·dsimp only; omega
   ·unfold i64r; dsimp only; omega
   intro k3 p3 d0 d1 d2
   dsimp only at d0 d1 d2
   repeat' (first|refine vz ?_|(conv=>whnf); first|with_reducible first|refine Sp.mk ?_ ?_|refine br_d (fun _=>?_) fun _=>?_|refine vM (fun _=>?_) fun _=>?_)
  all_goals try
   dsimp only [List.drop]
   rw [hv]
   repeat' (first|refine vz ?_|(conv=>whnf); first|with_reducible first|refine Sp.mk ?_ ?_|refine br_d (fun _=>?_) fun _=>?_|refine vM (fun _=>?_) fun _=>?_)
  all_goals
   have d3:=d1 (by omega)
   refine ⟨k3,?_,⟨by omega,by omega⟩,?_⟩
   ·exact wq
   have hn:=num_le k3
   have hz:(v ++ num k3).size=v.size+(num k3).size:=ByteArray.size_append
   have hl1:(⟨#[32]⟩:ByteArray).size=1:=rfl
   have hz2:(v ++ num k3 ++ ⟨#[32]⟩).size=(v ++ num k3).size+1:=ByteArray.size_append
   repeat' (first|refine vz ?_|(conv=>whnf); first|with_reducible first|refine Sp.mk ?_ ?_|refine br_d (fun _=>?_) fun _=>?_|refine vM (fun _=>?_) fun _=>?_)
  all_goals try
   dsimp only [List.drop]
   rw [hv]
   repeat' (first|refine vz ?_|(conv=>whnf); first|with_reducible first|refine Sp.mk ?_ ?_|refine br_d (fun _=>?_) fun _=>?_|refine vM (fun _=>?_) fun _=>?_)
  all_goals
   refine ⟨_,_,[0],[],rfl,?_,?_,(⟨b,p3⟩,9),rfl,rfl,⟨⟨h1,h2,?_,?_⟩,?_⟩,?_⟩
   ·repeat' ((conv=>whnf); first|with_reducible exact True.intro|exact vW|with_reducible refine And.intro ?_ ?_)
    try exact Chk.mk (by rw [pw_sh (by assumption)])
   ·exact wq
   ·dsimp only; omega
   ·dsimp only; omega
   ·unfold i64r; dsimp only; omega
   intro k4 p4 e0 e1 e2
   dsimp only at e0 e1 e2
   repeat' (first|refine vz ?_|(conv=>whnf); first|with_reducible first|refine Sp.mk ?_ ?_|refine br_d (fun _=>?_) fun _=>?_|refine vM (fun _=>?_) fun _=>?_)
  all_goals try
   dsimp only [List.drop]
   rw [hv]
   repeat' (first|refine vz ?_|(conv=>whnf); first|with_reducible first|refine Sp.mk ?_ ?_|refine br_d (fun _=>?_) fun _=>?_|refine vM (fun _=>?_) fun _=>?_)
  all_goals
   have e3:=e1 (by decide)
   refine ⟨k4,?_,⟨by omega,by omega⟩,?_⟩
   ·exact wq
   have hn4:=num_le k4
   have hz4:(v ++ num k3 ++ ⟨#[32]⟩ ++ num k4).size=(v ++ num k3 ++ ⟨#[32]⟩).size+(num k4).size:=ByteArray.size_append
   repeat' (first|refine vz ?_|(conv=>whnf); first|with_reducible first|refine Sp.mk ?_ ?_|refine br_d (fun _=>?_) fun _=>?_|refine vM (fun _=>?_) fun _=>?_)
  all_goals try
   dsimp only [List.drop]
   rw [hv]
   repeat' (first|refine vz ?_|(conv=>whnf); first|with_reducible first|refine Sp.mk ?_ ?_|refine br_d (fun _=>?_) fun _=>?_|refine vM (fun _=>?_) fun _=>?_)
  all_goals
   refine ⟨_,_,[some 0],[],rfl,rfl,?_,?_,h (v ++ num k3 ++ ⟨#[32]⟩ ++ num k4) p4 (by omega) (by omega) (by omega)⟩
   ·exact wq
   ·exact wq
end Go.Proofs.YtapeebjjljohdaaGreatDoor.Vc
end
section
/- Part YC: stores that are opened, acted at and saved, by both sides. -/
namespace Go.Proofs.YtapeebjjljohdaaGreatDoor.Vc
open Go.Proofs
set_option maxRecDepth 10000
set_option maxHeartbeats 4000000
def C259:List AV→(AV→Prop)→Prop:=con (X:=ByteArray) (fun s=>[.str s]) (fun s=>s.size≤1048576) fun s K=>K (.tup [slD (jr s),.int .i64 (jn s:Nat)])
theorem F259:FF 56 C259:=by
 refine fitXE [(97,C265),(78,C258)] (by simp only [List.mem_cons,List.not_mem_nil,or_false]; rintro _ (rfl|rfl) <;> first|exact F265|exact F258) [] (by simp) Tryz.f56 ⟨rfl,by decide +kernel,by decide +kernel⟩ (by intro x K K2 hk h; (try dsimp only at h ⊢); intros; apply hk; first|exact h|(apply h <;> assumption)) ?_
 rintro s K hs h
 refine ⟨Nat.le_of_ble_eq_true rfl,?_⟩
 repeat' (first|refine vz ?_|(conv=>whnf); first|with_reducible first|refine Sp.mk ?_ ?_|refine br_d (fun _=>?_) fun _=>?_|refine vM (fun _=>?_) fun _=>?_)
 refine Lp.mk ⟨List Dd × Nat,fun x=>[(0,.str s),(4,.row 0 4 0 x.1.length),(5,.int .i64 x.2)],fun x=>[.row 4 x.1.length fun i=>encD (x.1.getD i default)],fun x=>jrI s x.1 x.2,fun x=>s.size-x.2,⟨([],0),jrI_0 s,⟨⟨[none],[],rfl,rfl,?_,?_⟩⟩⟩,?_⟩
 ·exact wq
 ·exact wq
 rintro ⟨l,n⟩ hI
 have i1:=hI.le
 dsimp only at i1 hI ⊢
 have hll:l.length≤n:=by rw [hI.nn]; exact jl_len l
 have hbye:(∀ x t,okDd x→s.data.toList.drop n≠lineL x ++ t)→jr s=l∧jn s=n:=hI.end
 have hes:(s.extract n s.size).size≤s.size:=by rw [ByteArray.size_extract]; omega
 repeat' (first|refine vz ?_|(conv=>whnf); first|with_reducible first|refine Sp.mk ?_ ?_|refine br_d (fun _=>?_) fun _=>?_|refine vM (fun _=>?_) fun _=>?_)
 refine ⟨(s.extract n s.size,10),?_,⟨by dsimp only; omega⟩,?_⟩
 ·exact wq
 refine ⟨fun p r q1 q2=>?_,fun q=>?_⟩
 ·dsimp only at q1 q2
  rw [ext_tail] at q2
  have hps:p.size≤s.size:=by
   have:=congrArg List.length q2
   rw [List.length_drop,List.length_append,Array.length_toList,Array.length_toList] at this
   show p.data.size≤s.data.size
   omega
  repeat' (first|refine vz ?_|(conv=>whnf); first|with_reducible first|refine Sp.mk ?_ ?_|refine br_d (fun _=>?_) fun _=>?_|refine vM (fun _=>?_) fun _=>?_)
  refine ⟨p,?_,⟨by omega⟩,?_⟩
  ·exact wq
  refine ⟨fun x hx=>?_,fun hx=>?_⟩
  ·have hI2:=hI.step q2 hx
   have hle2:=hI2.le
   obtain ⟨k,a,b,w⟩:=x
   dsimp only [ded,encD]
   repeat' (first|refine vz ?_|(conv=>whnf); first|with_reducible first|refine Sp.mk ?_ ?_|refine br_d (fun _=>?_) fun _=>?_|refine vM (fun _=>?_) fun _=>?_)
   refine ⟨(l ++ [⟨k,a,b,w⟩],n+(p.size+1)),hI2,by dsimp only; omega,?_⟩
   first|(refine ⟨⟨[some 3],[],rfl,rfl,?_,?_⟩⟩ <;> (repeat' ((conv=>whnf); first|with_reducible exact True.intro|exact vW|with_reducible refine And.intro ?_ ?_|exact Chk.mk ⟨rfl,by rw [List.length_append]; rfl⟩|exact Chk.mk (ext_push (enc:=encD) (d:=default) (l:=l) (x:=⟨k,a,b,w⟩) rfl))) <;> fail)|(refine ⟨⟨[some 2],[],rfl,rfl,?_,?_⟩⟩ <;> (repeat' ((conv=>whnf); first|with_reducible exact True.intro|exact vW|with_reducible refine And.intro ?_ ?_|exact Chk.mk ⟨rfl,by rw [List.length_append]; rfl⟩|exact Chk.mk (ext_push (enc:=encD) (d:=default) (l:=l) (x:=⟨k,a,b,w⟩) rfl))) <;> fail)
  ·obtain ⟨e1,e2⟩:=hbye (q2 ▸ stop_line q1 hx)
   rw [e1,e2] at h
   dsimp only [ded,encD]
   repeat' (first|refine vz ?_|(conv=>whnf); first|with_reducible first|refine Sp.mk ?_ ?_|refine br_d (fun _=>?_) fun _=>?_|refine vM (fun _=>?_) fun _=>?_)
   refine ⟨_,?_,h⟩
   repeat' ((conv=>whnf); first|with_reducible exact True.intro|exact vW|with_reducible refine And.intro ?_ ?_)
   all_goals exact Chk.mk ⟨rfl,fun i _=>by dsimp only; (try rw [Nat.zero_add]); try rfl⟩
 ·dsimp only at q
  rw [ext_tail] at q
  obtain ⟨e1,e2⟩:=hbye (stop_none q)
  rw [e1,e2] at h
  repeat' (first|refine vz ?_|(conv=>whnf); first|with_reducible first|refine Sp.mk ?_ ?_|refine br_d (fun _=>?_) fun _=>?_|refine vM (fun _=>?_) fun _=>?_)
  refine ⟨s.extract n s.size,?_,⟨by omega⟩,?_⟩
  ·exact wq
  refine ⟨fun x hx=>?_,fun hx=>?_⟩
  ·obtain ⟨k,a,b,w⟩:=x
   dsimp only [ded,encD]
   repeat' (first|refine vz ?_|(conv=>whnf); first|with_reducible first|refine Sp.mk ?_ ?_|refine br_d (fun _=>?_) fun _=>?_|refine vM (fun _=>?_) fun _=>?_)
   refine ⟨_,?_,h⟩
   repeat' ((conv=>whnf); first|with_reducible exact True.intro|exact vW|with_reducible refine And.intro ?_ ?_)
   all_goals exact Chk.mk ⟨rfl,fun i _=>by dsimp only; (try rw [Nat.zero_add]); try rfl⟩
  ·dsimp only [ded,encD]
   repeat' (first|refine vz ?_|(conv=>whnf); first|with_reducible first|refine Sp.mk ?_ ?_|refine br_d (fun _=>?_) fun _=>?_|refine vM (fun _=>?_) fun _=>?_)
   refine ⟨_,?_,h⟩
   repeat' ((conv=>whnf); first|with_reducible exact True.intro|exact vW|with_reducible refine And.intro ?_ ?_)
   all_goals exact Chk.mk ⟨rfl,fun i _=>by dsimp only; (try rw [Nat.zero_add]); try rfl⟩
theorem jr_ded {s:ByteArray} (h:s.size≤1048576):∀ a∈jr s,dedI a:=fun a ha=>by
 obtain ⟨h1,h2⟩:=jr_mem ha
 have hk:=okDd_kind h1
 have h3:=h1.a
 have h4:=h1.b
 exact ⟨⟨by omega,by omega⟩,⟨by omega,by omega⟩,⟨by omega,by omega⟩,by omega⟩
def C281:List AV→(AV→Prop)→Prop:=con (X:=Store) (fun s=>[enSt s]) (fun s=>isSt s∧s.saved.size<4294967281) fun s K=>K (enDe (opD s))
theorem F281:FF 53 C281:=by
 refine fitXE [(47,C214),(56,C259),(62,C256)] (by simp only [List.mem_cons,List.not_mem_nil,or_false]; rintro _ (rfl|rfl|rfl) <;> first|exact F214|exact F259|exact F256) [] (by simp) Tryz.f53 ⟨rfl,by decide +kernel,by decide +kernel⟩ (by intro x K K2 hk h; (try dsimp only at h ⊢); intros; apply hk; first|exact h|(apply h <;> assumption)) ?_
 rintro ⟨a,b,c⟩ K ⟨hS,hs⟩ h
 refine ⟨Nat.le_of_ble_eq_true rfl,?_⟩
 have hl:=hS.2.1
 have hp:=plOf_is hS
 have hjl:=jr_len b
 have hjd:=jr_ded (s:=b) (by dsimp only at hl; omega)
 unfold opD at h
 dsimp only [enSt,stC] at h hs hl hp ⊢
 obtain ⟨x,hx⟩:∃ x,plOf a=x:=⟨_,rfl⟩
 rw [hx] at h hp
 repeat' (first|refine vz ?_|(conv=>whnf); first|with_reducible first|refine Sp.mk ?_ ?_|refine br_d (fun _=>?_) fun _=>?_|refine vM (fun _=>?_) fun _=>?_)
 refine ⟨a,?_,⟨hs⟩,?_⟩
 ·exact wq
 refine ⟨fun y q=>?_,fun q=>(q ⟨_,hp⟩).elim⟩
 obtain rfl:=isPt_one q hp
 have hO:=hp.1
 obtain ⟨p,bs,rs⟩:=y
 dsimp only [enPl,plC]
 repeat' (first|refine vz ?_|(conv=>whnf); first|with_reducible first|refine Sp.mk ?_ ?_|refine br_d (fun _=>?_) fun _=>?_|refine vM (fun _=>?_) fun _=>?_)
 refine ⟨b,?_,⟨by omega⟩,?_⟩
 ·exact wq
 repeat' (first|refine vz ?_|(conv=>whnf); first|with_reducible first|refine Sp.mk ?_ ?_|refine br_d (fun _=>?_) fun _=>?_|refine vM (fun _=>?_) fun _=>?_)
 refine ⟨⟨⟨⟨p,bs,rs⟩,[]⟩,jr b⟩,?_,⟨desk0_ok hO,hjd,by dsimp only; omega⟩,?_⟩
 ·exact wq
 dsimp only
 generalize runD ⟨⟨p,bs,rs⟩,[]⟩ (jr b)=r at h ⊢
 obtain ⟨⟨⟨ep,eb,er⟩,el⟩,n⟩:=r
 dsimp only [enDe,deC] at h ⊢
 repeat' (first|refine vz ?_|(conv=>whnf); first|with_reducible first|refine Sp.mk ?_ ?_|refine br_d (fun _=>?_) fun _=>?_|refine vM (fun _=>?_) fun _=>?_)
 refine ⟨_,?_,h⟩
 repeat' ((conv=>whnf); first|with_reducible exact True.intro|exact vW|with_reducible refine And.intro ?_ ?_)
def C282:List AV→(AV→Prop)→Prop:=con (X:=Store) (fun s=>[enSt s]) storeP fun s K=>K (.tup [enDe ((openS s).getD default),.bool (openS s).isSome])
theorem openS_yes {s:Store} (h:isSt s):openS s=some (opD s):=if_pos h
theorem openS_no {s:Store} (h:¬ isSt s):openS s=none:=if_neg h
theorem isf {o:Bool} {p:Prop} (h:o=true ↔ p) (hp:¬ p):o=false:=by cases o with|false=>rfl|true=>exact absurd (h.1 rfl) hp
theorem F282:FF 21 C282:=by
 refine fitXE [(52,C220),(53,C281)] (by simp only [List.mem_cons,List.not_mem_nil,or_false]; rintro _ (rfl|rfl) <;> first|exact F220|exact F281) [] (by simp) Tryz.f21 ⟨rfl,by decide +kernel,by decide +kernel⟩ (by intro x K K2 hk h; (try dsimp only at h ⊢); intros; apply hk; first|exact h|(apply h <;> assumption)) ?_
 rintro ⟨a,b,c⟩ K hP h
 refine ⟨Nat.le_of_ble_eq_true rfl,?_⟩
 have hs:=hP.2
 dsimp only [enSt,stC] at hs ⊢
 repeat' (first|refine vz ?_|(conv=>whnf); first|with_reducible first|refine Sp.mk ?_ ?_|refine br_d (fun _=>?_) fun _=>?_|refine vM (fun _=>?_) fun _=>?_)
 refine ⟨⟨a,b,c⟩,?_,⟨hP⟩,?_⟩
 ·exact wq
 intro o ho
 by_cases hS:isSt ⟨a,b,c⟩
 ·obtain rfl:=ho.2 hS
  rw [openS_yes hS] at h
  repeat' (first|refine vz ?_|(conv=>whnf); first|with_reducible first|refine Sp.mk ?_ ?_|refine br_d (fun _=>?_) fun _=>?_|refine vM (fun _=>?_) fun _=>?_)
  refine ⟨⟨a,b,c⟩,?_,⟨hS,hs⟩,?_⟩
  ·exact wq
  dsimp only [Option.getD_some,Option.isSome_some] at h ⊢
  generalize opD ⟨a,b,c⟩=e at h ⊢
  obtain ⟨⟨ep,eb,er⟩,el⟩:=e
  dsimp only [enDe,deC] at h ⊢
  repeat' (first|refine vz ?_|(conv=>whnf); first|with_reducible first|refine Sp.mk ?_ ?_|refine br_d (fun _=>?_) fun _=>?_|refine vM (fun _=>?_) fun _=>?_)
  refine ⟨_,?_,h⟩
  repeat' ((conv=>whnf); first|with_reducible exact True.intro|exact vW|with_reducible refine And.intro ?_ ?_)
 ·obtain rfl:=isf ho hS
  rw [openS_no hS] at h
  repeat' (first|refine vz ?_|(conv=>whnf); first|with_reducible first|refine Sp.mk ?_ ?_|refine br_d (fun _=>?_) fun _=>?_|refine vM (fun _=>?_) fun _=>?_)
  refine ⟨_,?_,h⟩
  repeat' ((conv=>whnf); first|with_reducible exact True.intro|exact vW|with_reducible refine And.intro ?_ ?_)
def C283:=C282
theorem F283:FF 88 C283:=by
 refine fitXE [(50,C222),(92,C219),(28,C246),(133,C257)] (by simp only [List.mem_cons,List.not_mem_nil,or_false]; rintro _ (rfl|rfl|rfl|rfl) <;> first|exact F222|exact F219|exact F246|exact F257) [] (by simp) Tryz.f88 ⟨rfl,by decide +kernel,by decide +kernel⟩ (by intro x K K2 hk h; (try dsimp only at h ⊢); intros; apply hk; first|exact h|(apply h <;> assumption)) ?_
 rintro ⟨a,b,c⟩ K hP h
 refine ⟨Nat.le_of_ble_eq_true rfl,?_⟩
 have hs:=hP.2
 dsimp only [enSt,stC] at hs ⊢
 repeat' (first|refine vz ?_|(conv=>whnf); first|with_reducible first|refine Sp.mk ?_ ?_|refine br_d (fun _=>?_) fun _=>?_|refine vM (fun _=>?_) fun _=>?_)
 refine ⟨⟨a,b,c⟩,?_,⟨hP⟩,?_⟩
 ·exact wq
 intro o ho
 by_cases hS:isSt ⟨a,b,c⟩
 ·obtain rfl:=ho.2 hS
  rw [openS_yes hS] at h
  have hl:=hS.2.1
  have hp:=plOf_is hS
  have hjl:=jr_len b
  have hjd:=jr_ded (s:=b) (by dsimp only at hl; omega)
  unfold opD at h
  dsimp only [Option.getD_some,Option.isSome_some] at h hl hp
  obtain ⟨x,hx⟩:∃ x,plOf a=x:=⟨_,rfl⟩
  rw [hx] at h hp
  repeat' (first|refine vz ?_|(conv=>whnf); first|with_reducible first|refine Sp.mk ?_ ?_|refine br_d (fun _=>?_) fun _=>?_|refine vM (fun _=>?_) fun _=>?_)
  refine ⟨a,?_,⟨hs⟩,?_⟩
  ·exact wq
  refine ⟨fun y q=>?_,fun q=>(q ⟨_,hp⟩).elim⟩
  obtain rfl:=isPt_one q hp
  have hO:=hp.1
  obtain ⟨p,bs,rs⟩:=y
  dsimp only [enPl,plC]
  repeat' (first|refine vz ?_|(conv=>whnf); first|with_reducible first|refine Sp.mk ?_ ?_|refine br_d (fun _=>?_) fun _=>?_|refine vM (fun _=>?_) fun _=>?_)
  refine ⟨b,?_,⟨by omega⟩,?_⟩
  ·exact wq
  repeat' (first|refine vz ?_|(conv=>whnf); first|with_reducible first|refine Sp.mk ?_ ?_|refine br_d (fun _=>?_) fun _=>?_|refine vM (fun _=>?_) fun _=>?_)
  refine ⟨⟨⟨⟨p,bs,rs⟩,[]⟩,jr b⟩,?_,⟨desk0_ok hO,hjd,by dsimp only; omega⟩,?_⟩
  ·exact wq
  dsimp only
  generalize runD ⟨⟨p,bs,rs⟩,[]⟩ (jr b)=r at h ⊢
  obtain ⟨⟨⟨ep,eb,er⟩,el⟩,n⟩:=r
  dsimp only [enDe,deC] at h ⊢
  repeat' (first|refine vz ?_|(conv=>whnf); first|with_reducible first|refine Sp.mk ?_ ?_|refine br_d (fun _=>?_) fun _=>?_|refine vM (fun _=>?_) fun _=>?_)
  refine ⟨_,?_,h⟩
  repeat' ((conv=>whnf); first|with_reducible exact True.intro|exact vW|with_reducible refine And.intro ?_ ?_)
 ·obtain rfl:=isf ho hS
  rw [openS_no hS] at h
  repeat' (first|refine vz ?_|(conv=>whnf); first|with_reducible first|refine Sp.mk ?_ ?_|refine br_d (fun _=>?_) fun _=>?_|refine vM (fun _=>?_) fun _=>?_)
  refine ⟨_,?_,h⟩
  repeat' ((conv=>whnf); first|with_reducible exact True.intro|exact vW|with_reducible refine And.intro ?_ ?_)
structure Sa where
 s:Store
 a:Dd
def C284:List AV→(AV→Prop)→Prop:=con (X:=Sa) (fun x=>[enSt x.s,ded x.a]) (fun x=>storeP x.s∧dedI x.a∧x.a.words.size≤1048576) fun x K=>K (.tup [enSt (actR x.s x.a),.bool (actS x.s x.a).isSome])
theorem F284:FF 23 C284:=by
 refine fitX [(52,C220),(55,C103),(56,C259),(53,C281),(57,C254)] (by simp only [List.mem_cons,List.not_mem_nil,or_false]; rintro _ (rfl|rfl|rfl|rfl|rfl) <;> first|exact F220|exact F103|exact F259|exact F281|exact F254) [] (by simp) Tryz.f23 ⟨rfl,by decide +kernel,by decide +kernel⟩ (by intro x K K2 hk h; (try dsimp only at h ⊢); intros; apply hk; first|exact h|(apply h <;> assumption)) ?_
 rintro ⟨⟨a,b,c⟩,⟨k,x,y,w⟩⟩ K ⟨hP,hD,hw⟩ h
 refine ⟨Nat.le_of_ble_eq_true rfl,?_⟩
 have hs:=hP.2
 dsimp only [enSt,stC,ded,encD] at hs hD hw h ⊢
 repeat' (first|refine vz ?_|(conv=>whnf); first|with_reducible first|refine Sp.mk ?_ ?_|refine br_d (fun _=>?_) fun _=>?_|refine vM (fun _=>?_) fun _=>?_)
 refine ⟨⟨a,b,c⟩,?_,⟨hP⟩,?_⟩
 ·exact wq
 intro o ho
 by_cases hS:isSt ⟨a,b,c⟩
 ·obtain rfl:=ho.2 hS
  have hl:=hS.2.1
  dsimp only at hl
  have hts:=deedT_size ⟨k,x,y,w⟩
  have hj:=jn_le b
  dsimp only at hts
  repeat' (first|refine vz ?_|(conv=>whnf); first|with_reducible first|refine Sp.mk ?_ ?_|refine br_d (fun _=>?_) fun _=>?_|refine vM (fun _=>?_) fun _=>?_)
  refine ⟨⟨k,x,y,w⟩,?_,⟨by dsimp only; omega⟩,?_⟩
  ·exact wq
  dsimp only
  have hno:¬ canAct ⟨a,b,c⟩ ⟨k,x,y,w⟩→K (.tup [.agg [.str a,.str b,.int .i64 c],.bool false]):=fun q=>by
   rw [actR_no hS q,actS_no fun g=>q g.2] at h
   exact h
  have hyes:canAct ⟨a,b,c⟩ ⟨k,x,y,w⟩→K (.tup [.agg [.str a,.str (b ++ (deedT ⟨k,x,y,w⟩ ++ ⟨#[10]⟩)),.int .i64 c],.bool true]):=fun q=>by
   rw [actR_yes hS q,actS_yes hS q] at h
   exact h
  repeat' (first|refine vz ?_|(conv=>whnf); first|with_reducible first|refine Sp.mk ?_ ?_|refine br_d (fun _=>?_) fun _=>?_|refine vM (fun _=>?_) fun _=>?_)
  refine ⟨b,?_,⟨by omega⟩,?_⟩
  ·exact wq
  by_cases hO:okDd ⟨k,x,y,w⟩
  ·have hne:=okDd_ne hO
   generalize hT:deedT ⟨k,x,y,w⟩=T at hts hne hyes ⊢
   by_cases hall:jn b=b.size
   ·by_cases hfit:b.size+T.size+1≤1000
    ·repeat' (first|refine vz ?_|(conv=>whnf); first|with_reducible first|refine Sp.mk ?_ ?_|refine br_d (fun _=>?_) fun _=>?_|refine vM (fun _=>?_) fun _=>?_)
     refine Dr.mk ⟨(.rd 0 (.rd 2 (.ef 1 (.ef 3 (.rd 4 (.rd 5 (.rd 6 (.ef 7 (.ef 8 (.rd 9 .dn) .no) .no)))) (.ef 7 (.ef 3 (.rd 4 (.rd 5 (.rd 6 (.ef 8 (.rd 9 .dn) .no)))) .no) .no)) (.ef 7 (.ef 1 (.ef 3 (.rd 4 (.rd 5 (.rd 6 (.ef 8 (.rd 9 .dn) .no)))) .no) .no) .no)))),by decide +kernel,?_⟩
     repeat' (first|refine vz ?_|(conv=>whnf); first|with_reducible first|refine Sp.mk ?_ ?_|refine br_d (fun _=>?_) fun _=>?_|refine vM (fun _=>?_) fun _=>?_)
     all_goals
      refine ⟨⟨a,b,c⟩,?_,⟨hS,hs⟩,?_⟩
      ·exact wq
      have hop:=opD_ok hS
      obtain ⟨e,he⟩:∃ e,opD ⟨a,b,c⟩=e:=⟨_,rfl⟩
      have hcan:∀ r,doD e ⟨k,x,y,w⟩=r→(canAct ⟨a,b,c⟩ ⟨k,x,y,w⟩ ↔ r.isSome=true):=fun r hr=>⟨fun q=>by have:=q.can; rw [he,hr] at this; exact this,fun q=>⟨hall,by rw [he,hr]; exact q,hO,by rw [hT]; exact hfit⟩⟩
      rw [he] at hop
      dsimp only
      rw [he]
      obtain ⟨⟨ep,eb,er⟩,el⟩:=e
      dsimp only [enDe,deC]
      repeat' (first|refine vz ?_|(conv=>whnf); first|with_reducible first|refine Sp.mk ?_ ?_|refine br_d (fun _=>?_) fun _=>?_|refine vM (fun _=>?_) fun _=>?_)
      all_goals
       refine ⟨⟨⟨⟨ep,eb,er⟩,el⟩,⟨k,x,y,w⟩⟩,?_,⟨deskOk_I hop,hop,hD⟩,?_⟩
       ·exact wq
       dsimp only
       cases hd:doD ⟨⟨ep,eb,er⟩,el⟩ ⟨k,x,y,w⟩ with
       |none =>
        have hc:¬ canAct ⟨a,b,c⟩ ⟨k,x,y,w⟩:=fun q=>by have:=(hcan _ hd).1 q; cases this
        dsimp only [enDe,deC,Option.getD_none,Option.isSome_none]
        repeat' (first|refine vz ?_|(conv=>whnf); first|with_reducible first|refine Sp.mk ?_ ?_|refine br_d (fun _=>?_) fun _=>?_|refine vM (fun _=>?_) fun _=>?_)
        exact hno hc
       |some f =>
        have hc:=(hcan _ hd).2 rfl
        obtain ⟨⟨fp,fb,fr⟩,fl⟩:=f
        have hz:(⟨#[10]⟩:ByteArray).size=1:=rfl
        dsimp only [enDe,deC,Option.getD_some,Option.isSome_some]
        repeat' ((conv=>whnf); first|refine ⟨Chk.mk (by (repeat rw [ByteArray.size_append]); omega),?_⟩|refine vA ?_|with_reducible first|refine v8 ?_|refine Sp.mk ?_ ?_|refine vS ?_|refine vR ?_|refine vB ?_|refine br_nt ?_|refine br_tt ?_|refine br_ff ?_|refine vP ?_|refine vQ ?_|refine vT ?_|refine vF ?_|refine br_and ?_|refine br_or ?_|refine br_d (fun _=>?_) fun _=>?_|refine vM (fun _=>?_) fun _=>?_)
        exact hyes hc
    ·repeat' (first|refine vz ?_|(conv=>whnf); first|with_reducible first|refine Sp.mk ?_ ?_|refine br_d (fun _=>?_) fun _=>?_|refine vM (fun _=>?_) fun _=>?_)
     exact hno fun q=>hfit (by have:=q.fit; rw [hT] at this; exact this)
   ·repeat' (first|refine vz ?_|(conv=>whnf); first|with_reducible first|refine Sp.mk ?_ ?_|refine br_d (fun _=>?_) fun _=>?_|refine vM (fun _=>?_) fun _=>?_)
    exact hno fun q=>hall q.all
  ·rw [deedT_no hO]
   have hee:(⟨#[]⟩:ByteArray)=⟨#[]⟩:=rfl
   repeat' (first|refine vz ?_|(conv=>whnf); first|with_reducible first|refine Sp.mk ?_ ?_|refine br_d (fun _=>?_) fun _=>?_|refine vM (fun _=>?_) fun _=>?_)
   exact hno fun q=>hO q.ok
 ·obtain rfl:=isf ho hS
  have e1:actR ⟨a,b,c⟩ ⟨k,x,y,w⟩=default:=if_neg hS
  rw [e1,actS_no fun g=>hS g.1] at h
  repeat' (first|refine vz ?_|(conv=>whnf); first|with_reducible first|refine Sp.mk ?_ ?_|refine br_d (fun _=>?_) fun _=>?_|refine vM (fun _=>?_) fun _=>?_)
  exact h
def C285:=C284
theorem F285:FF 89 C285:=by
 refine fitX [(50,C222),(28,C246),(88,C283),(63,C183),(73,C105)] (by simp only [List.mem_cons,List.not_mem_nil,or_false]; rintro _ (rfl|rfl|rfl|rfl|rfl) <;> first|exact F222|exact F246|exact F283|exact F183|exact F105) [] (by simp) Tryz.f89 ⟨rfl,by decide +kernel,by decide +kernel⟩ (by intro x K K2 hk h; (try dsimp only at h ⊢); intros; apply hk; first|exact h|(apply h <;> assumption)) ?_
 rintro ⟨⟨a,b,c⟩,⟨k,x,y,w⟩⟩ K ⟨hP,hD,hw⟩ h
 refine ⟨Nat.le_of_ble_eq_true rfl,?_⟩
 have hs:=hP.2
 dsimp only [enSt,stC,ded,encD] at hs hD hw h ⊢
 repeat' (first|refine vz ?_|(conv=>whnf); first|with_reducible first|refine Sp.mk ?_ ?_|refine br_d (fun _=>?_) fun _=>?_|refine vM (fun _=>?_) fun _=>?_)
 refine ⟨⟨a,b,c⟩,?_,⟨hP⟩,?_⟩
 ·exact wq
 intro o ho
 by_cases hS:isSt ⟨a,b,c⟩
 ·obtain rfl:=ho.2 hS
  have hl:=hS.2.1
  dsimp only at hl
  have hts:=deedT_size ⟨k,x,y,w⟩
  have hj:=jn_le b
  dsimp only at hts
  have hno:¬ canAct ⟨a,b,c⟩ ⟨k,x,y,w⟩→K (.tup [.agg [.str a,.str b,.int .i64 c],.bool false]):=fun q=>by
   rw [actR_no hS q,actS_no fun g=>q g.2] at h
   exact h
  have hyes:canAct ⟨a,b,c⟩ ⟨k,x,y,w⟩→K (.tup [.agg [.str a,.str (b ++ (deedT ⟨k,x,y,w⟩ ++ ⟨#[10]⟩)),.int .i64 c],.bool true]):=fun q=>by
   rw [actR_yes hS q,actS_yes hS q] at h
   exact h
  repeat' (first|refine vz ?_|(conv=>whnf); first|with_reducible first|refine Sp.mk ?_ ?_|refine br_d (fun _=>?_) fun _=>?_|refine vM (fun _=>?_) fun _=>?_)
  refine ⟨b,?_,⟨by omega⟩,?_⟩
  ·exact wq
  repeat' (first|refine vz ?_|(conv=>whnf); first|with_reducible first|refine Sp.mk ?_ ?_|refine br_d (fun _=>?_) fun _=>?_|refine vM (fun _=>?_) fun _=>?_)
  refine ⟨⟨a,b,c⟩,?_,⟨hP⟩,?_⟩
  ·exact wq
  have hop:=opD_ok hS
  dsimp only
  rw [openS_yes hS]
  obtain ⟨e,he⟩:∃ e,opD ⟨a,b,c⟩=e:=⟨_,rfl⟩
  have hcan:(doD e ⟨k,x,y,w⟩).isSome=(doD (opD ⟨a,b,c⟩) ⟨k,x,y,w⟩).isSome:=by rw [he]
  rw [he] at hop
  dsimp only [Option.getD_some,Option.isSome_some]
  rw [he]
  have hcD:canD e ⟨k,x,y,w⟩=(doD e ⟨k,x,y,w⟩).isSome:=by unfold canD; rw [decide_eq_true hop,Bool.true_and]
  obtain ⟨⟨ep,eb,er⟩,el⟩:=e
  dsimp only [enDe,deC]
  repeat' (first|refine vz ?_|(conv=>whnf); first|with_reducible first|refine Sp.mk ?_ ?_|refine br_d (fun _=>?_) fun _=>?_|refine vM (fun _=>?_) fun _=>?_)
  refine ⟨⟨⟨⟨ep,eb,er⟩,el⟩,⟨k,x,y,w⟩⟩,?_,⟨deskOk_I hop,hD⟩,?_⟩
  ·exact wq
  dsimp only
  rw [hcD]
  generalize afterD ⟨⟨ep,eb,er⟩,el⟩ ⟨k,x,y,w⟩=f
  obtain ⟨⟨fp,fb,fr⟩,fl⟩:=f
  generalize (doD ⟨⟨ep,eb,er⟩,el⟩ ⟨k,x,y,w⟩).isSome=can at hcan ⊢
  dsimp only [enDe,deC]
  repeat' (first|refine vz ?_|(conv=>whnf); first|with_reducible first|refine Sp.mk ?_ ?_|refine br_d (fun _=>?_) fun _=>?_|refine vM (fun _=>?_) fun _=>?_)
  refine ⟨⟨k,x,y,w⟩,?_,⟨by dsimp only; omega⟩,?_⟩
  ·exact wq
  dsimp only
  by_cases hall:jn b=b.size
  ·cases can
   ·repeat' (first|refine vz ?_|(conv=>whnf); first|with_reducible first|refine Sp.mk ?_ ?_|refine br_d (fun _=>?_) fun _=>?_|refine vM (fun _=>?_) fun _=>?_)
    exact hno fun q=>by have:=q.can; rw [← hcan] at this; cases this
   ·by_cases hO:okDd ⟨k,x,y,w⟩
    ·have hne:=okDd_ne hO
     generalize hT:deedT ⟨k,x,y,w⟩=T at hts hne hyes ⊢
     by_cases hfit:b.size+T.size+1≤1000
     ·have hc:canAct ⟨a,b,c⟩ ⟨k,x,y,w⟩:=⟨hall,hcan.symm,hO,by rw [hT]; exact hfit⟩
      have hz:(⟨#[10]⟩:ByteArray).size=1:=rfl
      have hy:=hyes hc
      rw [← ByteArray.append_assoc] at hy
      repeat' ((conv=>whnf); first|refine ⟨Chk.mk (by (repeat rw [ByteArray.size_append]); omega),?_⟩|refine vA ?_|with_reducible first|refine v8 ?_|refine Sp.mk ?_ ?_|refine vS ?_|refine vR ?_|refine vB ?_|refine br_nt ?_|refine br_tt ?_|refine br_ff ?_|refine vP ?_|refine vQ ?_|refine vT ?_|refine vF ?_|refine br_and ?_|refine br_or ?_|refine br_d (fun _=>?_) fun _=>?_|refine vM (fun _=>?_) fun _=>?_)
      exact hy
     ·repeat' (first|refine vz ?_|(conv=>whnf); first|with_reducible first|refine Sp.mk ?_ ?_|refine br_d (fun _=>?_) fun _=>?_|refine vM (fun _=>?_) fun _=>?_)
      exact hno fun q=>hfit (by have:=q.fit; rw [hT] at this; exact this)
    ·rw [deedT_no hO]
     have hee:(⟨#[]⟩:ByteArray)=⟨#[]⟩:=rfl
     repeat' (first|refine vz ?_|(conv=>whnf); first|with_reducible first|refine Sp.mk ?_ ?_|refine br_d (fun _=>?_) fun _=>?_|refine vM (fun _=>?_) fun _=>?_)
     exact hno fun q=>hO q.ok
  ·repeat' (first|refine vz ?_|(conv=>whnf); first|with_reducible first|refine Sp.mk ?_ ?_|refine br_d (fun _=>?_) fun _=>?_|refine vM (fun _=>?_) fun _=>?_)
   exact hno fun q=>hall q.all
 ·obtain rfl:=isf ho hS
  have e1:actR ⟨a,b,c⟩ ⟨k,x,y,w⟩=default:=if_neg hS
  rw [e1,actS_no fun g=>hS g.1] at h
  repeat' (first|refine vz ?_|(conv=>whnf); first|with_reducible first|refine Sp.mk ?_ ?_|refine br_d (fun _=>?_) fun _=>?_|refine vM (fun _=>?_) fun _=>?_)
  exact h
end Go.Proofs.YtapeebjjljohdaaGreatDoor.Vc
end
section
/- Part YD: stores that are drawn. -/
namespace Go.Proofs.YtapeebjjljohdaaGreatDoor.Vc
open Go.Proofs
set_option maxRecDepth 100000
set_option maxHeartbeats 4000000
def drawnS (s:Store):Prop:=s.saved.size≤20010∧s.log.size≤1010∧-10≤s.sure∧s.sure≤2000
def goodS (s:Store):Prop:=isSt s∨s=default
theorem isSt_sizes {s:Store} (h:isSt s):s.saved.size≤20000∧s.log.size≤1000∧0≤s.sure∧s.sure≤s.log.size:=by
 obtain ⟨x,hx⟩:=h.1
 have h1:=plT_size hx.1
 rw [hx.2] at h1
 exact ⟨h1,h.2.1,h.2.2⟩
theorem goodS.n {s:Store} (h:goodS s):s.saved.size≤20000∧s.log.size≤1000∧0≤s.sure∧s.sure≤s.log.size:=by
 rcases h with h|rfl
 ·exact isSt_sizes h
 ·exact ⟨by decide,by decide,by decide,by decide⟩
theorem goodS.P {s:Store} (h:goodS s):storeP s:=by
 have:=h.n
 exact ⟨⟨by omega,by omega,⟨by omega,by omega⟩⟩,by omega⟩
theorem newSt_good (x:Place):goodS (newSt x):=by
 unfold newSt ptext
 split
 ·rename_i h
  exact .inl (isSt_new h)
 ·exact .inr rfl
theorem placeOk_S {x:Place} (h:placeOk x):placeS x:=⟨I_of h,h.1.2.1,Nat.le_trans h.2.1.2 (by decide)⟩
theorem open_S (s:Store):placeS ((openS s).getD default).now:=by
 unfold openS
 split
 ·rename_i h
  exact placeOk_S (opD_ok h).1
 ·exact ⟨placeI0,by decide,by decide⟩
theorem act_good {s:Store} (h:goodS s) (a:Dd):goodS (actR s a):=by
 unfold actR
 split
 ·split
  ·rename_i h1 h2
   exact .inl (isSt_add h1 h2)
  ·exact h
 ·exact .inr rfl
theorem sync_good (s:Store):goodS ((syncS s).getD default):=by
 unfold syncS
 split
 ·rename_i h
  exact .inl (isSt_sync h)
 ·exact .inr rfl
theorem ext_le {s:ByteArray} {n:Nat}:(s.extract 0 n).size≤s.size∧(n≤s.size→(s.extract 0 n).size=n):=by
 rw [ByteArray.size_extract]
 omega
theorem crash_good (s:Store) (n:Int):goodS ((crashS s n).getD default):=by
 unfold crashS
 split
 ·rename_i h
  obtain ⟨h,h1,h2⟩:=h
  have h3:=h.2.2.1
  have h4:=h.2.1
  have e:=ext_le (s:=s.log) (n:=n.toNat)
  have e2:=e.2 (by omega)
  exact .inl ⟨h.1,by show (s.log.extract 0 n.toNat).size≤1000; omega,h3,by show s.sure≤((s.log.extract 0 n.toNat).size:Int); omega⟩
 ·exact .inr rfl
theorem sure_good {a b:ByteArray} {c m:Int} (h:goodS ⟨a,b,c⟩) (h1:0≤m) (h2:m≤b.size):goodS ⟨a,b,m⟩:=by
 rcases h with h|h
 ·exact .inl ⟨h.1,h.2.1,h1,h2⟩
 ·cases h
  obtain rfl:m=0:=by
   have:((default:ByteArray).size:Int)=0:=rfl
   omega
  exact .inr rfl
theorem goodS.d {s:Store} (h:goodS s):drawnS s:=by
 have:=h.n
 exact ⟨by omega,by omega,by omega,by omega⟩
def C288:GC:=conG (X:=Rd × Int) (fun x=>[.ptr 0 0,.int .i64 x.2]) (fun x=>[rdO x.1.b x.1.p]) (fun x=>x.1.okn 300000000∧i64r x.2) fun x K=>∀ (s:Store) (p':Int),x.1.p≤p'→p'≤x.1.p+5000→drawnS s→K (enSt s) [rdO x.1.b p']
theorem F288:GG 49 C288:=by
 refine fitG [(87,C144),(88,C283),(89,C285),(90,C277),(91,C275)] (by simp only [List.mem_cons,List.not_mem_nil,or_false]; rintro _ (rfl|rfl|rfl|rfl|rfl) <;> first|exact F144|exact F283|exact F285|exact F277|exact F275) [(70,C151),(38,C52),(40,C53),(71,C184),(60,C217)] (by simp only [List.mem_cons,List.not_mem_nil,or_false]; rintro _ (rfl|rfl|rfl|rfl|rfl) <;> first|exact F151|exact F52|exact F53|exact F184|exact F217) Tryz.f49 ⟨rfl,by decide +kernel,by decide +kernel⟩ (by intro x K K2 hk h; (try dsimp only at h ⊢); intros; apply hk; first|exact h|(apply h <;> assumption)) ?_
 rintro ⟨⟨b,p⟩,n⟩ K ⟨⟨h1,h2,h3,h4⟩,h5⟩ h
 refine ⟨Nat.le_of_ble_eq_true rfl,?_⟩
 dsimp only at h h1 h2 h3 h4 h5 ⊢
 repeat' (first|refine vz ?_|(conv=>whnf); first|with_reducible first|refine Sp.mk ?_ ?_|refine br_d (fun _=>?_) fun _=>?_|refine vM (fun _=>?_) fun _=>?_)
 refine ⟨_,_,[0],[],rfl,?_,?_,(⟨b,p⟩,0),rfl,rfl,⟨⟨h1,h2,h3,by dsimp only; omega⟩,by unfold i64r; dsimp only; omega⟩,?_⟩
 ·exact wq
 ·exact wq
 intro y p1 y1 y2 hy
 dsimp only at y1 y2 ⊢
 repeat' (first|refine vz ?_|(conv=>whnf); first|with_reducible first|refine Sp.mk ?_ ?_|refine br_d (fun _=>?_) fun _=>?_|refine vM (fun _=>?_) fun _=>?_)
 refine ⟨y,?_,⟨hy.I⟩,?_⟩
 ·exact wq
 have hg:=newSt_good y
 dsimp only
 generalize newSt y=s at hg ⊢
 obtain ⟨sa,sb,sc⟩:=s
 dsimp only [enSt,stC]
 repeat' (first|refine vz ?_|(conv=>whnf); first|with_reducible first|refine Sp.mk ?_ ?_|refine br_d (fun _=>?_) fun _=>?_|refine vM (fun _=>?_) fun _=>?_)
 refine ⟨_,_,[0],[],rfl,?_,?_,(⟨b,p1⟩,7),rfl,rfl,⟨⟨h1,h2,?_,?_⟩,?_⟩,?_⟩
 ·repeat' ((conv=>whnf); first|with_reducible exact True.intro|exact vW|with_reducible refine And.intro ?_ ?_)
  try exact Chk.mk (by rw [pw_sh (by assumption)])
 ·exact wq
 ·dsimp only; omega
 ·dsimp only; omega
 ·unfold i64r; dsimp only; omega
 intro k1 p2 a0 a1 a2
 dsimp only at a0 a1 a2
 repeat' (first|refine vz ?_|(conv=>whnf); first|with_reducible first|refine Sp.mk ?_ ?_|refine br_d (fun _=>?_) fun _=>?_|refine vM (fun _=>?_) fun _=>?_)
 refine Lp.mk ⟨Store × Int × Int,fun x=>[(0,.ptr 0 0),(1,.int .i64 n),(4,.ptr 1 0),(5,.ptr 2 0),(7,.int .i64 x.2.1)],
  fun x=>[rdO b x.2.2,.box [.str ⟨#[]⟩,.str ⟨#[]⟩,.int .i64 0],.box (stC x.1)],
  fun x=>0≤x.2.1∧x.2.1≤6∧p2≤x.2.2∧x.2.2+300*x.2.1≤p2+1800∧goodS x.1,fun x=>x.2.1.toNat,⟨(⟨sa,sb,sc⟩,k1,p2),⟨by dsimp only; omega,by dsimp only; omega,by dsimp only; omega,by dsimp only; omega,hg⟩,⟨⟨[some 0,some 1,some 2],[],rfl,rfl,?_,?_⟩⟩⟩,?_⟩
 ·exact wq
 ·exact wq
 clear hg
 clear sa sb sc
 rintro ⟨⟨sa,sb,sc⟩,j,q⟩ ⟨i1,i2,i3,i4,hg⟩
 have hP:=hg.P
 have hn:=hg.n
 dsimp only [stC] at i1 i2 i3 i4 hn ⊢
 repeat' (first|refine vz ?_|(conv=>whnf); first|with_reducible first|refine Sp.mk ?_ ?_|refine br_d (fun _=>?_) fun _=>?_|refine vM (fun _=>?_) fun _=>?_)
 ·rename_i hj
  refine ⟨⟨sa,sb,sc⟩,?_,⟨hP⟩,?_⟩
  ·exact wq
  have hS:=open_S ⟨sa,sb,sc⟩
  dsimp only
  generalize (openS ⟨sa,sb,sc⟩).getD default=D at hS ⊢
  generalize (openS ⟨sa,sb,sc⟩).isSome=o
  obtain ⟨⟨ep,eb,er⟩,el⟩:=D
  dsimp only [enDe,deC] at hS ⊢
  repeat' (first|refine vz ?_|(conv=>whnf); first|with_reducible first|refine Sp.mk ?_ ?_|refine br_d (fun _=>?_) fun _=>?_|refine vM (fun _=>?_) fun _=>?_)
  refine Dr.mk ⟨(.rd 0 (.rd 1 (.rd 2 (.rd 3 (.ef 4 (.ef 5 (.rd 6 (.rd 7 (.rd 8 (.ef 9 (.ef 10 (.rd 11 .dn) .no) .no)))) (.ef 9 (.ef 5 (.rd 6 (.rd 7 (.rd 8 (.ef 10 (.rd 11 .dn) .no)))) .no) .no)) (.ef 9 (.ef 4 (.ef 5 (.rd 6 (.rd 7 (.rd 8 (.ef 10 (.rd 11 .dn) .no)))) .no) .no) .no)))))),by decide +kernel,?_⟩
  repeat' (first|refine vz ?_|(conv=>whnf); first|with_reducible first|refine Sp.mk ?_ ?_|refine br_d (fun _=>?_) fun _=>?_|refine vM (fun _=>?_) fun _=>?_)
  all_goals
   refine ⟨_,_,[0],[],rfl,?_,?_,⟨⟨b,q⟩,⟨ep,eb,er⟩⟩,rfl,rfl,⟨⟨h1,h2,by dsimp only; omega,by dsimp only; omega⟩,hS⟩,?_⟩
   ·exact wq
   ·exact wq
   rintro ⟨k,x,y,w⟩ q' q1 q2 ha
   have hAI:=ha.I
   have hw:w.size≤1048576:=by have:=ha.w0; dsimp only at this; omega
   dsimp only [ded,encD] at q1 q2 ⊢
   repeat' (first|refine vz ?_|(conv=>whnf); first|with_reducible first|refine Sp.mk ?_ ?_|refine br_d (fun _=>?_) fun _=>?_|refine vM (fun _=>?_) fun _=>?_)
  all_goals
   refine ⟨⟨⟨sa,sb,sc⟩,⟨k,x,y,w⟩⟩,?_,⟨hP,hAI,hw⟩,?_⟩
   ·exact wq
   have hg2:=act_good hg ⟨k,x,y,w⟩
   dsimp only
   generalize actR ⟨sa,sb,sc⟩ ⟨k,x,y,w⟩=s2 at hg2 ⊢
   generalize (actS ⟨sa,sb,sc⟩ ⟨k,x,y,w⟩).isSome=o2
   obtain ⟨ta,tb,tc⟩:=s2
   dsimp only [enSt,stC]
   cases o2
   ·repeat' (first|refine vz ?_|(conv=>whnf); first|with_reducible first|refine Sp.mk ?_ ?_|refine br_d (fun _=>?_) fun _=>?_|refine vM (fun _=>?_) fun _=>?_)
    have hn2:=hg.n
    dsimp only at hn2
    refine ⟨_,_,[0],[],rfl,?_,?_,(⟨b,q'⟩,6),rfl,rfl,⟨⟨h1,h2,?_,?_⟩,?_⟩,?_⟩
    ·repeat' ((conv=>whnf); first|with_reducible exact True.intro|exact vW|with_reducible refine And.intro ?_ ?_)
     try exact Chk.mk (by rw [pw_sh (by assumption)])
    ·exact wq
    ·dsimp only; omega
    ·dsimp only; omega
    ·unfold i64r; dsimp only; omega
    intro k2 q2 e0 e1 e2
    dsimp only at e0 e1 e2
    repeat' (first|refine vz ?_|(conv=>whnf); first|with_reducible first|refine Sp.mk ?_ ?_|refine br_d (fun _=>?_) fun _=>?_|refine vM (fun _=>?_) fun _=>?_)
    ·refine ⟨⟨sa,sb,sc⟩,?_,⟨hg.P⟩,?_⟩
     ·exact wq
     have hg3:=sync_good ⟨sa,sb,sc⟩
     unfold optS
     dsimp only
     generalize (syncS ⟨sa,sb,sc⟩).getD default=s3 at hg3 ⊢
     generalize (syncS ⟨sa,sb,sc⟩).isSome=o3
     obtain ⟨ua,ub,uc⟩:=s3
     dsimp only [enSt,stC]
     repeat' (first|refine vz ?_|(conv=>whnf); first|with_reducible first|refine Sp.mk ?_ ?_|refine br_d (fun _=>?_) fun _=>?_|refine vM (fun _=>?_) fun _=>?_)
     refine ⟨((⟨ua,ub,uc⟩:Store),j-1,q2),⟨by dsimp only; omega,by dsimp only; omega,by dsimp only; omega,by dsimp only; omega,hg3⟩,by dsimp only; omega,?_⟩
     first|(refine ⟨⟨[some 0,some 1,some 2],[],rfl,rfl,?_,?_⟩⟩ <;> (repeat' ((conv=>whnf); first|with_reducible exact True.intro|exact vW|with_reducible refine And.intro ?_ ?_)) <;> fail)
    ·refine Dr.mk ⟨(.rd 0 (.rd 1 (.rd 2 (.rd 3 (.rd 4 (.rd 5 (.ef 6 (.rd 7 (.rd 8 (.rd 9 (.ef 10 .dn .no)))) .no))))))),by decide +kernel,?_⟩
     repeat' (first|refine vz ?_|(conv=>whnf); first|with_reducible first|refine Sp.mk ?_ ?_|refine br_d (fun _=>?_) fun _=>?_|refine vM (fun _=>?_) fun _=>?_)
     all_goals
      refine ⟨_,_,[0],[],rfl,?_,?_,(⟨b,q2⟩,20),rfl,rfl,⟨⟨h1,h2,?_,?_⟩,?_⟩,?_⟩
      ·repeat' ((conv=>whnf); first|with_reducible exact True.intro|exact vW|with_reducible refine And.intro ?_ ?_)
       try exact Chk.mk (by rw [pw_sh (by assumption)])
      ·exact wq
      ·dsimp only; omega
      ·dsimp only; omega
      ·unfold i64r; dsimp only; omega
      intro k3 q3 f0 f1 f2
      dsimp only at f0 f1 f2
      have f3:=f1 (by decide)
      repeat' (first|refine vz ?_|(conv=>whnf); first|with_reducible first|refine Sp.mk ?_ ?_|refine br_d (fun _=>?_) fun _=>?_|refine vM (fun _=>?_) fun _=>?_)
     all_goals
      have hg4:goodS ⟨sa,sb,if sc+k3<(sb.size:Int) then sc+k3 else (sb.size:Int)⟩:=sure_good hg (by split <;> omega) (by split <;> omega)
      refine ⟨((⟨sa,sb,if sc+k3<(sb.size:Int) then sc+k3 else (sb.size:Int)⟩:Store),j-1,q3),⟨by dsimp only; omega,by dsimp only; omega,by dsimp only; omega,by dsimp only; omega,hg4⟩,by dsimp only; omega,?_⟩
      first|(refine ⟨⟨[some 0,some 1,some 2],[],rfl,rfl,?_,?_⟩⟩ <;> (repeat' ((conv=>whnf); first|with_reducible exact True.intro|exact vW|with_reducible refine And.intro ?_ ?_)) <;> fail)
    ·refine ⟨((⟨sa,sb,sc⟩:Store),j-1,q2),⟨by dsimp only; omega,by dsimp only; omega,by dsimp only; omega,by dsimp only; omega,hg⟩,by dsimp only; omega,?_⟩
     first|(refine ⟨⟨[some 0,some 1,some 2],[],rfl,rfl,?_,?_⟩⟩ <;> (repeat' ((conv=>whnf); first|with_reducible exact True.intro|exact vW|with_reducible refine And.intro ?_ ?_)) <;> fail)
   ·repeat' (first|refine vz ?_|(conv=>whnf); first|with_reducible first|refine Sp.mk ?_ ?_|refine br_d (fun _=>?_) fun _=>?_|refine vM (fun _=>?_) fun _=>?_)
    have hn2:=hg2.n
    dsimp only at hn2
    refine ⟨_,_,[0],[],rfl,?_,?_,(⟨b,q'⟩,6),rfl,rfl,⟨⟨h1,h2,?_,?_⟩,?_⟩,?_⟩
    ·repeat' ((conv=>whnf); first|with_reducible exact True.intro|exact vW|with_reducible refine And.intro ?_ ?_)
     try exact Chk.mk (by rw [pw_sh (by assumption)])
    ·exact wq
    ·dsimp only; omega
    ·dsimp only; omega
    ·unfold i64r; dsimp only; omega
    intro k2 q2 e0 e1 e2
    dsimp only at e0 e1 e2
    repeat' (first|refine vz ?_|(conv=>whnf); first|with_reducible first|refine Sp.mk ?_ ?_|refine br_d (fun _=>?_) fun _=>?_|refine vM (fun _=>?_) fun _=>?_)
    ·refine ⟨⟨ta,tb,tc⟩,?_,⟨hg2.P⟩,?_⟩
     ·exact wq
     have hg3:=sync_good ⟨ta,tb,tc⟩
     unfold optS
     dsimp only
     generalize (syncS ⟨ta,tb,tc⟩).getD default=s3 at hg3 ⊢
     generalize (syncS ⟨ta,tb,tc⟩).isSome=o3
     obtain ⟨ua,ub,uc⟩:=s3
     dsimp only [enSt,stC]
     repeat' (first|refine vz ?_|(conv=>whnf); first|with_reducible first|refine Sp.mk ?_ ?_|refine br_d (fun _=>?_) fun _=>?_|refine vM (fun _=>?_) fun _=>?_)
     refine ⟨((⟨ua,ub,uc⟩:Store),j-1,q2),⟨by dsimp only; omega,by dsimp only; omega,by dsimp only; omega,by dsimp only; omega,hg3⟩,by dsimp only; omega,?_⟩
     first|(refine ⟨⟨[some 0,some 1,some 2],[],rfl,rfl,?_,?_⟩⟩ <;> (repeat' ((conv=>whnf); first|with_reducible exact True.intro|exact vW|with_reducible refine And.intro ?_ ?_)) <;> fail)
    ·refine Dr.mk ⟨(.rd 0 (.rd 1 (.rd 2 (.rd 3 (.rd 4 (.rd 5 (.ef 6 (.rd 7 (.rd 8 (.rd 9 (.ef 10 .dn .no)))) .no))))))),by decide +kernel,?_⟩
     repeat' (first|refine vz ?_|(conv=>whnf); first|with_reducible first|refine Sp.mk ?_ ?_|refine br_d (fun _=>?_) fun _=>?_|refine vM (fun _=>?_) fun _=>?_)
     all_goals
      refine ⟨_,_,[0],[],rfl,?_,?_,(⟨b,q2⟩,20),rfl,rfl,⟨⟨h1,h2,?_,?_⟩,?_⟩,?_⟩
      ·repeat' ((conv=>whnf); first|with_reducible exact True.intro|exact vW|with_reducible refine And.intro ?_ ?_)
       try exact Chk.mk (by rw [pw_sh (by assumption)])
      ·exact wq
      ·dsimp only; omega
      ·dsimp only; omega
      ·unfold i64r; dsimp only; omega
      intro k3 q3 f0 f1 f2
      dsimp only at f0 f1 f2
      have f3:=f1 (by decide)
      repeat' (first|refine vz ?_|(conv=>whnf); first|with_reducible first|refine Sp.mk ?_ ?_|refine br_d (fun _=>?_) fun _=>?_|refine vM (fun _=>?_) fun _=>?_)
     all_goals
      have hg4:goodS ⟨ta,tb,if tc+k3<(tb.size:Int) then tc+k3 else (tb.size:Int)⟩:=sure_good hg2 (by split <;> omega) (by split <;> omega)
      refine ⟨((⟨ta,tb,if tc+k3<(tb.size:Int) then tc+k3 else (tb.size:Int)⟩:Store),j-1,q3),⟨by dsimp only; omega,by dsimp only; omega,by dsimp only; omega,by dsimp only; omega,hg4⟩,by dsimp only; omega,?_⟩
      first|(refine ⟨⟨[some 0,some 1,some 2],[],rfl,rfl,?_,?_⟩⟩ <;> (repeat' ((conv=>whnf); first|with_reducible exact True.intro|exact vW|with_reducible refine And.intro ?_ ?_)) <;> fail)
    ·refine ⟨((⟨ta,tb,tc⟩:Store),j-1,q2),⟨by dsimp only; omega,by dsimp only; omega,by dsimp only; omega,by dsimp only; omega,hg2⟩,by dsimp only; omega,?_⟩
     first|(refine ⟨⟨[some 0,some 1,some 2],[],rfl,rfl,?_,?_⟩⟩ <;> (repeat' ((conv=>whnf); first|with_reducible exact True.intro|exact vW|with_reducible refine And.intro ?_ ?_)) <;> fail)
 ·refine ⟨_,_,[0],[],rfl,?_,?_,(⟨b,q⟩,4),rfl,rfl,⟨⟨h1,h2,?_,?_⟩,?_⟩,?_⟩
  ·repeat' ((conv=>whnf); first|with_reducible exact True.intro|exact vW|with_reducible refine And.intro ?_ ?_)
   try exact Chk.mk (by rw [pw_sh (by assumption)])
  ·exact wq
  ·dsimp only; omega
  ·dsimp only; omega
  ·unfold i64r; dsimp only; omega
  intro k4 q4 d0 d1 d2
  dsimp only at d0 d1 d2
  repeat' (first|refine vz ?_|(conv=>whnf); first|with_reducible first|refine Sp.mk ?_ ?_|refine br_d (fun _=>?_) fun _=>?_|refine vM (fun _=>?_) fun _=>?_)
  ·refine Dr.mk ⟨(.rd 0 (.rd 1 (.rd 2 (.rd 3 (.rd 4 (.rd 5 (.rd 6 (.rd 7 (.rd 8 (.rd 9 (.rd 10 (.ef 11 (.rd 12 (.ef 13 (.rd 14 (.rd 15 (.rd 16 (.ef 17 .dn .no)))) .no)) .no)))))))))))),by decide +kernel,?_⟩
   repeat' (first|refine vz ?_|(conv=>whnf); first|with_reducible first|refine Sp.mk ?_ ?_|refine br_d (fun _=>?_) fun _=>?_|refine vM (fun _=>?_) fun _=>?_)
   all_goals
    refine ⟨_,_,[0],[],rfl,?_,?_,(⟨b,q4⟩,(sb.size:Int)-sc+1),rfl,rfl,⟨⟨h1,h2,?_,?_⟩,?_⟩,?_⟩
    ·repeat' ((conv=>whnf); first|with_reducible exact True.intro|exact vW|with_reducible refine And.intro ?_ ?_)
     try exact Chk.mk (by rw [pw_sh (by assumption)])
    ·exact wq
    ·dsimp only; omega
    ·dsimp only; omega
    ·unfold i64r; dsimp only; omega
    intro k5 q5 e0 e1 e2
    dsimp only at e0 e1 e2
    have e3:=e1 (by omega)
    repeat' (first|refine vz ?_|(conv=>whnf); first|with_reducible first|refine Sp.mk ?_ ?_|refine br_d (fun _=>?_) fun _=>?_|refine vM (fun _=>?_) fun _=>?_)
   all_goals
    refine ⟨(⟨sa,sb,sc⟩,sc+k5),?_,⟨hP,by unfold i64r; dsimp only; omega⟩,?_⟩
    ·exact wq
    have hg3:=crash_good ⟨sa,sb,sc⟩ (sc+k5)
    unfold optS
    dsimp only
    generalize (crashS ⟨sa,sb,sc⟩ (sc+k5)).getD default=s3 at hg3 ⊢
    generalize (crashS ⟨sa,sb,sc⟩ (sc+k5)).isSome=o3
    obtain ⟨ua,ub,uc⟩:=s3
    dsimp only [enSt,stC]
    repeat' (first|refine vz ?_|(conv=>whnf); first|with_reducible first|refine Sp.mk ?_ ?_|refine br_d (fun _=>?_) fun _=>?_|refine vM (fun _=>?_) fun _=>?_)
    have hn3:=hg3.n
    dsimp only at hn3
    refine ⟨_,_,[0],[],rfl,?_,?_,(⟨b,q5⟩,n),rfl,rfl,⟨⟨h1,h2,by dsimp only; omega,by dsimp only; omega⟩,h5⟩,?_⟩
    ·exact wq
    ·exact wq
    intro v p6 v1 v2
    dsimp only at v1 v2 ⊢
    repeat' (first|refine vz ?_|(conv=>whnf); first|with_reducible first|refine Sp.mk ?_ ?_|refine br_d (fun _=>?_) fun _=>?_|refine vM (fun _=>?_) fun _=>?_)
    ·refine ⟨_,_,[0],[],rfl,?_,?_,(⟨b,p6⟩,3),rfl,rfl,⟨⟨h1,h2,?_,?_⟩,?_⟩,?_⟩
     ·repeat' ((conv=>whnf); first|with_reducible exact True.intro|exact vW|with_reducible refine And.intro ?_ ?_)
      try exact Chk.mk (by rw [pw_sh (by assumption)])
     ·exact wq
     ·dsimp only; omega
     ·dsimp only; omega
     ·unfold i64r; dsimp only; omega
     intro k7 p7 f0 f1 f2
     dsimp only at f0 f1 f2
     repeat' (first|refine vz ?_|(conv=>whnf); first|with_reducible first|refine Sp.mk ?_ ?_|refine br_d (fun _=>?_) fun _=>?_|refine vM (fun _=>?_) fun _=>?_)
     ·refine ⟨_,_,[0],[],rfl,?_,?_,⟨⟨b,p7⟩,ua⟩,rfl,rfl,⟨⟨h1,h2,by dsimp only; omega,by dsimp only; omega⟩,by dsimp only; omega⟩,?_⟩
      ·exact wq
      ·exact wq
      intro u p8 u1 u2 u3
      dsimp only at u1 u2 u3 ⊢
      repeat' (first|refine vz ?_|(conv=>whnf); first|with_reducible first|refine Sp.mk ?_ ?_|refine br_d (fun _=>?_) fun _=>?_|refine vM (fun _=>?_) fun _=>?_)
      refine ⟨_,_,[some 0],[],rfl,rfl,?_,?_,h ⟨u,ub,uc⟩ p8 (by omega) (by omega) ⟨by dsimp only; omega,by dsimp only; omega,by dsimp only; omega,by dsimp only; omega⟩⟩
      ·exact wq
      ·exact wq
     ·refine ⟨_,_,[some 0],[],rfl,rfl,?_,?_,h ⟨ua,ub,ub.size+1⟩ p7 (by omega) (by omega) ⟨by dsimp only; omega,by dsimp only; omega,by dsimp only; omega,by dsimp only; omega⟩⟩
      ·exact wq
      ·exact wq
     ·refine ⟨_,_,[0],[],rfl,?_,?_,⟨⟨b,p7⟩,ub⟩,rfl,rfl,⟨⟨h1,h2,by dsimp only; omega,by dsimp only; omega⟩,by dsimp only; omega⟩,?_⟩
      ·exact wq
      ·exact wq
      intro u p8 u1 u2 u3
      dsimp only at u1 u2 u3 ⊢
      repeat' (first|refine vz ?_|(conv=>whnf); first|with_reducible first|refine Sp.mk ?_ ?_|refine br_d (fun _=>?_) fun _=>?_|refine vM (fun _=>?_) fun _=>?_)
      refine ⟨_,_,[some 0],[],rfl,rfl,?_,?_,h ⟨ua,u,uc⟩ p8 (by omega) (by omega) ⟨by dsimp only; omega,by dsimp only; omega,by dsimp only; omega,by dsimp only; omega⟩⟩
      ·exact wq
      ·exact wq
    ·refine ⟨_,_,[some 0],[],rfl,rfl,?_,?_,h ⟨ua,ub,uc⟩ p6 (by omega) (by omega) hg3.d⟩
     ·exact wq
     ·exact wq
  ·have hn3:=hg.n
   dsimp only at hn3
   refine ⟨_,_,[0],[],rfl,?_,?_,(⟨b,q4⟩,n),rfl,rfl,⟨⟨h1,h2,by dsimp only; omega,by dsimp only; omega⟩,h5⟩,?_⟩
   ·exact wq
   ·exact wq
   intro v p6 v1 v2
   dsimp only at v1 v2 ⊢
   repeat' (first|refine vz ?_|(conv=>whnf); first|with_reducible first|refine Sp.mk ?_ ?_|refine br_d (fun _=>?_) fun _=>?_|refine vM (fun _=>?_) fun _=>?_)
   ·refine ⟨_,_,[0],[],rfl,?_,?_,(⟨b,p6⟩,3),rfl,rfl,⟨⟨h1,h2,?_,?_⟩,?_⟩,?_⟩
    ·repeat' ((conv=>whnf); first|with_reducible exact True.intro|exact vW|with_reducible refine And.intro ?_ ?_)
     try exact Chk.mk (by rw [pw_sh (by assumption)])
    ·exact wq
    ·dsimp only; omega
    ·dsimp only; omega
    ·unfold i64r; dsimp only; omega
    intro k7 p7 f0 f1 f2
    dsimp only at f0 f1 f2
    repeat' (first|refine vz ?_|(conv=>whnf); first|with_reducible first|refine Sp.mk ?_ ?_|refine br_d (fun _=>?_) fun _=>?_|refine vM (fun _=>?_) fun _=>?_)
    ·refine ⟨_,_,[0],[],rfl,?_,?_,⟨⟨b,p7⟩,sa⟩,rfl,rfl,⟨⟨h1,h2,by dsimp only; omega,by dsimp only; omega⟩,by dsimp only; omega⟩,?_⟩
     ·exact wq
     ·exact wq
     intro u p8 u1 u2 u3
     dsimp only at u1 u2 u3 ⊢
     repeat' (first|refine vz ?_|(conv=>whnf); first|with_reducible first|refine Sp.mk ?_ ?_|refine br_d (fun _=>?_) fun _=>?_|refine vM (fun _=>?_) fun _=>?_)
     refine ⟨_,_,[some 0],[],rfl,rfl,?_,?_,h ⟨u,sb,sc⟩ p8 (by omega) (by omega) ⟨by dsimp only; omega,by dsimp only; omega,by dsimp only; omega,by dsimp only; omega⟩⟩
     ·exact wq
     ·exact wq
    ·refine ⟨_,_,[some 0],[],rfl,rfl,?_,?_,h ⟨sa,sb,sb.size+1⟩ p7 (by omega) (by omega) ⟨by dsimp only; omega,by dsimp only; omega,by dsimp only; omega,by dsimp only; omega⟩⟩
     ·exact wq
     ·exact wq
    ·refine ⟨_,_,[0],[],rfl,?_,?_,⟨⟨b,p7⟩,sb⟩,rfl,rfl,⟨⟨h1,h2,by dsimp only; omega,by dsimp only; omega⟩,by dsimp only; omega⟩,?_⟩
     ·exact wq
     ·exact wq
     intro u p8 u1 u2 u3
     dsimp only at u1 u2 u3 ⊢
     repeat' (first|refine vz ?_|(conv=>whnf); first|with_reducible first|refine Sp.mk ?_ ?_|refine br_d (fun _=>?_) fun _=>?_|refine vM (fun _=>?_) fun _=>?_)
     refine ⟨_,_,[some 0],[],rfl,rfl,?_,?_,h ⟨sa,u,sc⟩ p8 (by omega) (by omega) ⟨by dsimp only; omega,by dsimp only; omega,by dsimp only; omega,by dsimp only; omega⟩⟩
     ·exact wq
     ·exact wq
   ·refine ⟨_,_,[some 0],[],rfl,rfl,?_,?_,h ⟨sa,sb,sc⟩ p6 (by omega) (by omega) hg.d⟩
    ·exact wq
    ·exact wq
end Go.Proofs.YtapeebjjljohdaaGreatDoor.Vc
end
section
/- Part YDD: what the draws of stores yield. -/
namespace Go.Proofs.YtapeebjjljohdaaGreatDoor.Vc
open Go.Proofs
set_option maxRecDepth 100000
set_option maxHeartbeats 4000000
def C289:List AV→(AV→Prop)→Prop:=con (X:=List Int) (fun l=>[slB l]) bytesI fun _ K=>∀ s:Store,drawnS s→K (enSt s)
def C296:=C289
theorem F296:FF 18 C296:=by
 refine fitX [] (by simp) [(36,C42),(49,C288)] (by simp only [List.mem_cons,List.not_mem_nil,or_false]; rintro _ (rfl|rfl) <;> first|exact F42|exact F288) Tryz.f18 ⟨rfl,by decide +kernel,by decide +kernel⟩ (fun _ _ _ hk h s hs=>hk _ (h s hs)) ?_
 rintro l K hl h
 refine ⟨Nat.le_of_ble_eq_true rfl,?_⟩
 repeat' (first|refine vz ?_|(conv=>whnf); first|with_reducible first|refine Sp.mk ?_ ?_|refine br_d (fun _=>?_) fun _=>?_|refine vM (fun _=>?_) fun _=>?_)
 refine ⟨_,_,[],[],rfl,?_,?_,l,rfl,rfl,⟨hl⟩,?_⟩
 ·exact wq
 ·exact wq
 intro b hb
 dsimp only
 repeat' (first|refine vz ?_|(conv=>whnf); first|with_reducible first|refine Sp.mk ?_ ?_|refine br_d (fun _=>?_) fun _=>?_|refine vM (fun _=>?_) fun _=>?_)
 refine ⟨_,_,[1],[],rfl,?_,?_,(⟨b,0⟩,6),rfl,rfl,⟨⟨hb.1,hb.2.1,by dsimp only; omega,by dsimp only; omega⟩,by unfold i64r; dsimp only; omega⟩,?_⟩
 ·exact wq
 ·exact wq
 intro s p' _ _ hs
 repeat' (first|refine vz ?_|(conv=>whnf); first|with_reducible first|refine Sp.mk ?_ ?_|refine br_d (fun _=>?_) fun _=>?_|refine vM (fun _=>?_) fun _=>?_)
 exact h s hs
end Go.Proofs.YtapeebjjljohdaaGreatDoor.Vc
end
section
/- Part QQ: what the draws of lines and journals yield. -/
namespace Go.Proofs.YtapeebjjljohdaaGreatDoor.Vc
open Go.Proofs
set_option maxRecDepth 100000
set_option maxHeartbeats 4000000
def C348:List AV→(AV→Prop)→Prop:=con (X:=List Int) (fun l=>[slB l]) bytesI fun _ K=>∀ (d:Desk) (s:ByteArray),drawnD d→s.size≤300000→K (.tup [enDe d,.str s])
theorem F348:FF 33 C348:=by
 refine fitXS [] (by simp) [(36,C42),(37,C167),(39,C351)] (by simp only [List.mem_cons,List.not_mem_nil,or_false]; rintro _ (rfl|rfl|rfl) <;> first|exact F42|exact F167|exact F351) Tryz.f33 ⟨rfl,by decide +kernel,by decide +kernel⟩ (fun _ _ _ hk h d a h1 h2=>hk _ (h d a h1 h2)) ?_
 rintro l K hl h
 refine ⟨Nat.le_of_ble_eq_true rfl,?_⟩
 repeat' (first|refine vz ?_|(conv=>whnf); first|with_reducible first|refine Sp.mk ?_ ?_|refine br_d (fun _=>?_) fun _=>?_|refine vM (fun _=>?_) fun _=>?_)
 refine ⟨_,_,[],[],rfl,?_,?_,l,rfl,rfl,⟨hl⟩,?_⟩
 ·exact wq
 ·exact wq
 rintro b ⟨h1,h2,h3,h4⟩
 dsimp only
 repeat' (first|refine vz ?_|(conv=>whnf); first|with_reducible first|refine Sp.mk ?_ ?_|refine br_d (fun _=>?_) fun _=>?_|refine vM (fun _=>?_) fun _=>?_)
 refine ⟨_,_,[1],[],rfl,?_,?_,(⟨b,0⟩,12),rfl,rfl,⟨⟨h1,h2,by dsimp only; omega,by dsimp only; omega⟩,by unfold i64r; dsimp only; omega⟩,?_⟩
 ·exact wq
 ·exact wq
 rintro ⟨⟨p,bs,rs⟩,past⟩ p1 f a1 a2 hd hf
 dsimp only at a1 a2 ⊢
 repeat' (first|refine vz ?_|(conv=>whnf); first|with_reducible first|refine Sp.mk ?_ ?_|refine br_d (fun _=>?_) fun _=>?_|refine vM (fun _=>?_) fun _=>?_)
 refine Dr.mk ⟨(.rd 0 (.rd 1 (.rd 2 (.rd 3 (.ef 4 (.ef 5 (.rd 6 .dn) .no) .no))))),by decide +kernel,?_⟩
 repeat' (first|refine vz ?_|(conv=>whnf); first|with_reducible first|refine Sp.mk ?_ ?_|refine br_d (fun _=>?_) fun _=>?_|refine vM (fun _=>?_) fun _=>?_)
 all_goals
  refine ⟨_,_,[1],[],rfl,?_,?_,⟨⟨b,p1⟩,⟨p,bs,rs⟩⟩,rfl,rfl,⟨⟨h1,h2,by dsimp only; omega,by dsimp only; omega⟩,hd.1.S⟩,?_⟩
  ·exact wq
  ·exact wq
  intro s p2 c1 c2 hs
  repeat' (first|refine vz ?_|(conv=>whnf); first|with_reducible first|refine Sp.mk ?_ ?_|refine br_d (fun _=>?_) fun _=>?_|refine vM (fun _=>?_) fun _=>?_)
 all_goals exact ⟨_,tup2_sem (desk_sem ⟨⟨p,bs,rs⟩,past⟩ hf) (semE_rfl _),h _ s hd hs⟩
def drawnT (l:List ByteArray):Prop:=l.length≤41∧∀ s∈l,s.size≤300000
def C349:List AV→(AV→Prop)→Prop:=con (X:=List Int) (fun l=>[slB l]) bytesI fun _ K=>∀ (d:Desk) (l:List ByteArray),drawnD d→drawnT l→K (.tup [enDe d,slS l])
theorem F349:FF 7 C349:=by
 refine fitXS [] (by simp) [(36,C42),(37,C167),(38,C52),(39,C351),(40,C53)] (by simp only [List.mem_cons,List.not_mem_nil,or_false]; rintro _ (rfl|rfl|rfl|rfl|rfl) <;> first|exact F42|exact F167|exact F52|exact F351|exact F53) Tryz.f7 ⟨rfl,by decide +kernel,by decide +kernel⟩ (fun _ _ _ hk h d a h1 h2=>hk _ (h d a h1 h2)) ?_
 rintro l K hl h
 refine ⟨Nat.le_of_ble_eq_true rfl,?_⟩
 repeat' (first|refine vz ?_|(conv=>whnf); first|with_reducible first|refine Sp.mk ?_ ?_|refine br_d (fun _=>?_) fun _=>?_|refine vM (fun _=>?_) fun _=>?_)
 refine ⟨_,_,[],[],rfl,?_,?_,l,rfl,rfl,⟨hl⟩,?_⟩
 ·exact wq
 ·exact wq
 rintro b ⟨h1,h2,h3,h4⟩
 dsimp only
 repeat' (first|refine vz ?_|(conv=>whnf); first|with_reducible first|refine Sp.mk ?_ ?_|refine br_d (fun _=>?_) fun _=>?_|refine vM (fun _=>?_) fun _=>?_)
 refine ⟨_,_,[1],[],rfl,?_,?_,(⟨b,0⟩,12),rfl,rfl,⟨⟨h1,h2,by dsimp only; omega,by dsimp only; omega⟩,by unfold i64r; dsimp only; omega⟩,?_⟩
 ·exact wq
 ·exact wq
 rintro ⟨⟨p,bs,rs⟩,past⟩ p1 f a1 a2 hd hf
 dsimp only at a1 a2 ⊢
 repeat' (first|refine vz ?_|(conv=>whnf); first|with_reducible first|refine Sp.mk ?_ ?_|refine br_d (fun _=>?_) fun _=>?_|refine vM (fun _=>?_) fun _=>?_)
 refine ⟨_,_,[1],[],rfl,?_,?_,(⟨b,p1⟩,6),rfl,rfl,⟨⟨h1,h2,?_,?_⟩,?_⟩,?_⟩
 ·repeat' ((conv=>whnf); first|with_reducible exact True.intro|exact vW|with_reducible refine And.intro ?_ ?_)
  try exact Chk.mk (by rw [pw_sh (by assumption)])
 ·exact wq
 ·dsimp only; omega
 ·dsimp only; omega
 ·unfold i64r; dsimp only; omega
 intro k p2 a0 a1 a2
 dsimp only at a0 a1 a2
 have a3:=a1 (by decide)
 clear a0 a1
 repeat' (first|refine vz ?_|(conv=>whnf); first|with_reducible first|refine Sp.mk ?_ ?_|refine br_d (fun _=>?_) fun _=>?_|refine vM (fun _=>?_) fun _=>?_)
 refine Lp.mk ⟨List ByteArray × Int × Int,fun x=>[(2,.ptr 0 0),(4,.ptr 1 0),(5,.ptr 2 0),(6,.row 3 1 0 x.1.length),(7,.int .i64 x.2.1)],fun x=>[.box [.int .i64 0,.nils,.nils,.nils],rdO b x.2.2,.box [.int .i64 p,slI bs,slS rs,.sl 3 past.length f],.row 1 x.1.length fun i=>encS (x.1.getD i ⟨#[]⟩)],
  fun x=>0≤x.2.1∧x.2.1+x.1.length=k∧p2≤x.2.2∧x.2.2≤p2+300*x.1.length∧∀ a∈x.1,a.size≤300000,fun x=>x.2.1.toNat,⟨([],k,p2),⟨by dsimp only; omega,by simp,by dsimp only; omega,by simp,(fun _ g=>by cases g)⟩,⟨⟨[some 0,some 1,some 2,none],[],rfl,rfl,?_,?_⟩⟩⟩,?_⟩
 ·exact wq
 ·exact wq
 rintro ⟨m,j,p3⟩ ⟨i1,i2,i3,i4,i5⟩
 dsimp only at i1 i2 i3 i4 i5 ⊢
 repeat' (first|refine vz ?_|(conv=>whnf); first|with_reducible first|refine Sp.mk ?_ ?_|refine br_d (fun _=>?_) fun _=>?_|refine vM (fun _=>?_) fun _=>?_)
 ·refine ⟨_,_,[1],[],rfl,?_,?_,⟨⟨b,p3⟩,⟨p,bs,rs⟩⟩,rfl,rfl,⟨⟨h1,h2,by dsimp only; omega,by dsimp only; omega⟩,hd.1.S⟩,?_⟩
  ·exact wq
  ·exact wq
  intro s p4 c1 c2 hs
  dsimp only at c1 c2 ⊢
  repeat' (first|refine vz ?_|(conv=>whnf); first|with_reducible first|refine Sp.mk ?_ ?_|refine br_d (fun _=>?_) fun _=>?_|refine vM (fun _=>?_) fun _=>?_)
  refine ⟨(m ++ [s],j-1,p4),⟨by dsimp only; omega,by simp only [List.length_append,List.length_cons,List.length_nil]; omega,by dsimp only; omega,by simp only [List.length_append,List.length_cons,List.length_nil]; omega,fun y hy=>(List.mem_append.1 hy).elim (i5 y) fun g=>by rw [List.mem_singleton.1 g]; exact hs⟩,by dsimp only; omega,?_⟩
  first|(refine ⟨⟨[some 0,some 1,some 2,some 5],[],rfl,rfl,?_,?_⟩⟩ <;> (repeat' ((conv=>whnf); first|with_reducible exact True.intro|exact vW|with_reducible refine And.intro ?_ ?_|exact Chk.mk ⟨rfl,by rw [List.length_append]; rfl⟩|exact Chk.mk (ext_push (enc:=encS) (d:=⟨#[]⟩) (l:=m) (x:=s) rfl))) <;> fail)|(refine ⟨⟨[some 0,some 1,some 2,some 4],[],rfl,rfl,?_,?_⟩⟩ <;> (repeat' ((conv=>whnf); first|with_reducible exact True.intro|exact vW|with_reducible refine And.intro ?_ ?_|exact Chk.mk ⟨rfl,by rw [List.length_append]; rfl⟩|exact Chk.mk (ext_push (enc:=encS) (d:=⟨#[]⟩) (l:=m) (x:=s) rfl))) <;> fail)
 ·refine ⟨_,_,[1],[],rfl,?_,?_,(⟨b,p3⟩,30),rfl,rfl,⟨⟨h1,h2,by dsimp only; omega,by dsimp only; omega⟩,by unfold i64r; dsimp only; omega⟩,?_⟩
  ·exact wq
  ·exact wq
  intro v p' v1 v2
  dsimp only at v1 v2 ⊢
  repeat' ((conv=>whnf); first|((with_reducible refine And.intro (Chk.mk ?_) ?_); (focus (refine ⟨rfl,?_,?_,?_⟩; (focus decide); (focus decide); (focus decide))))|refine vA ?_|with_reducible first|refine v8 ?_|refine Sp.mk ?_ ?_|refine vS ?_|refine vR ?_|refine vB ?_|refine br_nt ?_|refine br_tt ?_|refine br_ff ?_|refine vP ?_|refine vQ ?_|refine vT ?_|refine vF ?_|refine br_and ?_|refine br_or ?_|refine br_d (fun _=>?_) fun _=>?_|refine vM (fun _=>?_) fun _=>?_)
  ·refine ⟨_,tup2_sem (desk_sem ⟨⟨p,bs,rs⟩,past⟩ hf) (ext_sem ?_),h _ (List.replicate 41 ⟨#[]⟩) hd ⟨by rw [List.length_replicate]; exact Nat.le_refl _,fun a ha=>by rw [List.eq_of_mem_replicate ha]; exact Nat.zero_le _⟩⟩
   refine ⟨by rw [List.length_replicate]; rfl,fun i hi=>?_⟩
   replace hi:i<41:=hi
   rw [List.getD_eq_getElem?_getD,List.getElem?_replicate,if_pos hi]
   rfl
  ·exact ⟨_,tup2_sem (desk_sem ⟨⟨p,bs,rs⟩,past⟩ hf) (ext_sem ⟨rfl,fun i _=>by dsimp only; (try rw [Nat.zero_add]); try rfl⟩),h _ m hd ⟨by omega,i5⟩⟩
def C350:List AV→(AV→Prop)→Prop:=con (X:=List Int) (fun l=>[slB l]) bytesI fun _ K=>∀ s:ByteArray,s.size≤100000→K (.str s)
theorem F350:FF 26 C350:=by
 refine fitX [(58,C112)] (by simp only [List.mem_cons,List.not_mem_nil,or_false]; rintro _ rfl <;> first|exact F112) [(36,C42),(59,C260),(38,C52),(60,C217)] (by simp only [List.mem_cons,List.not_mem_nil,or_false]; rintro _ (rfl|rfl|rfl|rfl) <;> first|exact F42|exact F260|exact F52|exact F217) Tryz.f26 ⟨rfl,by decide +kernel,by decide +kernel⟩ (fun _ _ _ hk h y hy=>hk _ (h y hy)) ?_
 rintro l K hl h
 refine ⟨Nat.le_of_ble_eq_true rfl,?_⟩
 repeat' (first|refine vz ?_|(conv=>whnf); first|with_reducible first|refine Sp.mk ?_ ?_|refine br_d (fun _=>?_) fun _=>?_|refine vM (fun _=>?_) fun _=>?_)
 refine ⟨_,_,[],[],rfl,?_,?_,l,rfl,rfl,⟨hl⟩,?_⟩
 ·exact wq
 ·exact wq
 rintro b ⟨h1,h2,h3,h4⟩
 dsimp only
 repeat' (first|refine vz ?_|(conv=>whnf); first|with_reducible first|refine Sp.mk ?_ ?_|refine br_d (fun _=>?_) fun _=>?_|refine vM (fun _=>?_) fun _=>?_)
 refine ⟨_,_,[0],[],rfl,?_,?_,⟨b,0⟩,rfl,rfl,⟨h1,h2,by dsimp only; omega,by dsimp only; omega⟩,?_⟩
 ·exact wq
 ·exact wq
 rintro m p1 y1 y2 y3 hm
 dsimp only at y1 y2 y3 ⊢
 have hw:=wsum_le (l:=m) (M:=10000) (fun a ha=>(hm a ha).1.w0) m.length (Nat.le_refl _)
 have hsz:=jT_le (l:=m)
 repeat' (first|refine vz ?_|(conv=>whnf); first|with_reducible first|refine Sp.mk ?_ ?_|refine br_d (fun _=>?_) fun _=>?_|refine vM (fun _=>?_) fun _=>?_)
 refine ⟨m,?_,⟨by unfold jOk; omega⟩,?_⟩
 ·repeat' ((conv=>whnf); first|with_reducible exact True.intro|exact vW|with_reducible refine And.intro ?_ ?_)
  all_goals exact Chk.mk ⟨rfl,fun i _=>by dsimp only; (try rw [Nat.zero_add]); try rfl⟩
 dsimp only
 generalize jT m=t at hsz ⊢
 repeat' (first|refine vz ?_|(conv=>whnf); first|with_reducible first|refine Sp.mk ?_ ?_|refine br_d (fun _=>?_) fun _=>?_|refine vM (fun _=>?_) fun _=>?_)
 refine ⟨_,_,[0],[],rfl,?_,?_,(⟨b,p1⟩,3),rfl,rfl,⟨⟨h1,h2,?_,?_⟩,?_⟩,?_⟩
 ·repeat' ((conv=>whnf); first|with_reducible exact True.intro|exact vW|with_reducible refine And.intro ?_ ?_)
  try exact Chk.mk (by rw [pw_sh (by assumption)])
 ·exact wq
 ·dsimp only; omega
 ·dsimp only; omega
 ·unfold i64r; dsimp only; omega
 intro k p2 a0 a1 a2
 dsimp only at a0 a1 a2
 repeat' (first|refine vz ?_|(conv=>whnf); first|with_reducible first|refine Sp.mk ?_ ?_|refine br_d (fun _=>?_) fun _=>?_|refine vM (fun _=>?_) fun _=>?_)
 ·refine ⟨_,_,[0],[],rfl,?_,?_,⟨⟨b,p2⟩,t⟩,rfl,rfl,⟨⟨h1,h2,by dsimp only; omega,by dsimp only; omega⟩,by dsimp only; omega⟩,?_⟩
  ·exact wq
  ·exact wq
  intro u p3 u1 u2 u3
  dsimp only at u3
  repeat' (first|refine vz ?_|(conv=>whnf); first|with_reducible first|refine Sp.mk ?_ ?_|refine br_d (fun _=>?_) fun _=>?_|refine vM (fun _=>?_) fun _=>?_)
  exact h u (by omega)
 ·refine ⟨_,_,[0],[],rfl,?_,?_,(⟨b,p2⟩,((t.size:Int)+1)),rfl,rfl,⟨⟨h1,h2,?_,?_⟩,?_⟩,?_⟩
  ·repeat' ((conv=>whnf); first|with_reducible exact True.intro|exact vW|with_reducible refine And.intro ?_ ?_)
   try exact Chk.mk (by rw [pw_sh (by assumption)])
  ·exact wq
  ·dsimp only; omega
  ·dsimp only; omega
  ·unfold i64r; dsimp only; omega
  intro k2 p3 c0 c1 c2
  dsimp only at c0 c1 c2
  have c3:=c1 (by omega)
  repeat' (first|refine vz ?_|(conv=>whnf); first|with_reducible first|refine Sp.mk ?_ ?_|refine br_d (fun _=>?_) fun _=>?_|refine vM (fun _=>?_) fun _=>?_)
  exact h _ (by rw [ByteArray.size_extract]; omega)
 ·exact h t (by omega)
end Go.Proofs.YtapeebjjljohdaaGreatDoor.Vc
end
section
/- Part QR: the law of lines at desks. -/
namespace Go.Proofs.YtapeebjjljohdaaGreatDoor.Vc
open Go.Proofs
set_option maxRecDepth 100000
set_option maxHeartbeats 4000000
def C353:List AV→(AV→Prop)→Prop:=con (X:=List Int) (fun l=>[slB l]) bytesI fun _ K=>K (.bool true)
theorem F353:FF 6 C353:=by
 refine fitX [(33,C348),(15,C311),(34,C313),(10,C134),(12,C139),(13,C135),(14,C22),(35,C136)] (by simp only [List.mem_cons,List.not_mem_nil,or_false]; rintro _ (rfl|rfl|rfl|rfl|rfl|rfl|rfl|rfl) <;> first|exact F348|exact F311|exact F313|exact F134|exact F139|exact F135|exact F22|exact F136) [] (by simp) Tryz.f6 ⟨rfl,by decide +kernel,by decide +kernel⟩ (by intro x K K2 hk h; (try dsimp only at h ⊢); intros; apply hk; first|exact h|(apply h <;> assumption)) ?_
 rintro L K hL h
 refine ⟨Nat.le_of_ble_eq_true rfl,?_⟩
 have hll:=hL.2
 have htt:(true == true)=true:=rfl
 have hee:(⟨#[]⟩:ByteArray)=⟨#[]⟩:=rfl
 repeat' (first|refine vz ?_|(conv=>whnf); first|with_reducible first|refine Sp.mk ?_ ?_|refine br_d (fun _=>?_) fun _=>?_|refine vM (fun _=>?_) fun _=>?_)
 ·exact h
 refine ⟨L,?_,⟨hL⟩,?_⟩
 ·exact wq
 rintro ⟨⟨p,bs,rs⟩,past⟩ s hd hs
 have hI:=hd.I
 have hlen:=hd.len
 dsimp only [enDe,deC]
 repeat' (first|refine vz ?_|(conv=>whnf); first|with_reducible first|refine Sp.mk ?_ ?_|refine br_d (fun _=>?_) fun _=>?_|refine vM (fun _=>?_) fun _=>?_)
 refine ⟨⟨⟨⟨p,bs,rs⟩,past⟩,s⟩,?_,⟨hI,by dsimp only; omega⟩,?_⟩
 ·exact wq
 by_cases hO:deskOk ⟨⟨p,bs,rs⟩,past⟩
 ·refine ⟨fun _=>?_,fun q=>absurd hO q⟩
  have hrO:=lineD_ok (s:=s) hO
  have hsame:=@lineD_same ⟨⟨p,bs,rs⟩,past⟩ s
  dsimp only
  generalize hr:lineD ⟨⟨p,bs,rs⟩,past⟩ s=r at hrO hsame ⊢
  obtain ⟨⟨⟨xp,xb,xr⟩,xl⟩,w⟩:=r
  have hrl:=deskOk_len hrO
  have hww:w=w:=rfl
  dsimp only [enDe,deC] at hsame ⊢
  repeat' (first|refine vz ?_|(conv=>whnf); first|with_reducible first|refine Sp.mk ?_ ?_|refine br_d (fun _=>?_) fun _=>?_|refine vM (fun _=>?_) fun _=>?_)
  refine ⟨⟨⟨⟨p,bs,rs⟩,past⟩,s⟩,?_,⟨hI,by dsimp only; omega⟩,?_⟩
  ·exact wq
  refine ⟨fun _=>?_,fun q=>absurd hO q⟩
  dsimp only
  rw [hr]
  dsimp only [enDe,deC]
  repeat' (first|refine vz ?_|(conv=>whnf); first|with_reducible first|refine Sp.mk ?_ ?_|refine br_d (fun _=>?_) fun _=>?_|refine vM (fun _=>?_) fun _=>?_)
  refine ⟨⟨⟨xp,xb,xr⟩,xl⟩,?_,⟨hrl⟩,?_⟩
  ·exact wq
  repeat' (first|refine vz ?_|(conv=>whnf); first|with_reducible first|refine Sp.mk ?_ ?_|refine br_d (fun _=>?_) fun _=>?_|refine vM (fun _=>?_) fun _=>?_)
  refine ⟨⟨⟨p,bs,rs⟩,past⟩,?_,⟨hI⟩,?_⟩
  ·exact wq
  dsimp only
  rw [decide_eq_true hO]
  repeat' (first|refine vz ?_|(conv=>whnf); first|with_reducible first|refine Sp.mk ?_ ?_|refine br_d (fun _=>?_) fun _=>?_|refine vM (fun _=>?_) fun _=>?_)
  refine ⟨⟨⟨⟨p,bs,rs⟩,past⟩,⟨#[]⟩⟩,?_,⟨hI,by dsimp only; decide⟩,?_⟩
  ·exact wq
  refine ⟨fun _=>?_,fun q=>absurd hO q⟩
  dsimp only
  rw [line_nil]
  dsimp only [enDe,deC]
  repeat' (first|refine vz ?_|(conv=>whnf); first|with_reducible first|refine Sp.mk ?_ ?_|refine br_d (fun _=>?_) fun _=>?_|refine vM (fun _=>?_) fun _=>?_)
  refine ⟨⟨⟨xp,xb,xr⟩,xl⟩,?_,⟨deskOk_I hrO⟩,?_⟩
  ·exact wq
  dsimp only
  rw [decide_eq_true hrO]
  repeat' (first|refine vz ?_|(conv=>whnf); first|with_reducible first|refine Sp.mk ?_ ?_|refine br_d (fun _=>?_) fun _=>?_|refine vM (fun _=>?_) fun _=>?_)
  ·refine ⟨⟨⟨p,bs,rs⟩,past⟩,?_,⟨hlen⟩,?_⟩
   ·exact wq
   repeat' (first|refine vz ?_|(conv=>whnf); first|with_reducible first|refine Sp.mk ?_ ?_|refine br_d (fun _=>?_) fun _=>?_|refine vM (fun _=>?_) fun _=>?_)
   exact h
  ·rename_i hw
   have hx:=hsame.resolve_left hw
   cases hx
   refine ⟨⟨⟨p,bs,rs⟩,past⟩,?_,⟨hlen⟩,?_⟩
   ·exact wq
   repeat' (first|refine vz ?_|(conv=>whnf); first|with_reducible first|refine Sp.mk ?_ ?_|refine br_d (fun _=>?_) fun _=>?_|refine vM (fun _=>?_) fun _=>?_)
   refine ⟨⟨⟨p,bs,rs⟩,past⟩,?_,⟨hlen⟩,?_⟩
   ·exact wq
   repeat' (first|refine vz ?_|(conv=>whnf); first|with_reducible first|refine Sp.mk ?_ ?_|refine br_d (fun _=>?_) fun _=>?_|refine vM (fun _=>?_) fun _=>?_)
   exact h
 ·refine ⟨fun q=>absurd q hO,fun _=>?_⟩
  repeat' (first|refine vz ?_|(conv=>whnf); first|with_reducible first|refine Sp.mk ?_ ?_|refine br_d (fun _=>?_) fun _=>?_|refine vM (fun _=>?_) fun _=>?_)
  refine ⟨⟨⟨⟨p,bs,rs⟩,past⟩,s⟩,?_,⟨hI,by dsimp only; omega⟩,?_⟩
  ·exact wq
  refine ⟨fun q=>absurd q hO,fun _=>?_⟩
  repeat' (first|refine vz ?_|(conv=>whnf); first|with_reducible first|refine Sp.mk ?_ ?_|refine br_d (fun _=>?_) fun _=>?_|refine vM (fun _=>?_) fun _=>?_)
  refine ⟨default,?_,⟨lenD0⟩,?_⟩
  ·exact wq
  repeat' (first|refine vz ?_|(conv=>whnf); first|with_reducible first|refine Sp.mk ?_ ?_|refine br_d (fun _=>?_) fun _=>?_|refine vM (fun _=>?_) fun _=>?_)
  refine ⟨⟨⟨p,bs,rs⟩,past⟩,?_,⟨hI⟩,?_⟩
  ·exact wq
  dsimp only
  rw [decide_eq_false hO]
  repeat' (first|refine vz ?_|(conv=>whnf); first|with_reducible first|refine Sp.mk ?_ ?_|refine br_d (fun _=>?_) fun _=>?_|refine vM (fun _=>?_) fun _=>?_)
  refine ⟨(),?_,⟨trivial⟩,?_⟩
  ·exact wq
  repeat' (first|refine vz ?_|(conv=>whnf); first|with_reducible first|refine Sp.mk ?_ ?_|refine br_d (fun _=>?_) fun _=>?_|refine vM (fun _=>?_) fun _=>?_)
  refine ⟨(),?_,⟨trivial⟩,?_⟩
  ·exact wq
  repeat' (first|refine vz ?_|(conv=>whnf); first|with_reducible first|refine Sp.mk ?_ ?_|refine br_d (fun _=>?_) fun _=>?_|refine vM (fun _=>?_) fun _=>?_)
  exact h
end Go.Proofs.YtapeebjjljohdaaGreatDoor.Vc
end
section
/- Part QT: the law of lines said to a desk. -/
namespace Go.Proofs.YtapeebjjljohdaaGreatDoor.Vc
open Go.Proofs
set_option maxRecDepth 100000
set_option maxHeartbeats 4000000
theorem takeS_ext {l:List ByteArray} {n:Nat} (hn:n≤l.length):n-Int.toNat 0=(l.take n).length∧∀ i,i<n-Int.toNat 0→encS (l.getD (Int.toNat 0+i) ⟨#[]⟩)=encS ((l.take n).getD i ⟨#[]⟩):=⟨by rw [List.length_take]; show n-0=_; omega,fun i hi=>by
 replace hi:i<n:=hi
 rw [show Int.toNat 0+i=i from Nat.zero_add i,List.getD_eq_getElem?_getD,List.getD_eq_getElem?_getD,List.getElem?_take_of_lt hi]⟩
theorem dropS_ext {l:List ByteArray} {n:Nat}:(l.length:Int).toNat-n=(l.drop n).length∧∀ i,i<(l.length:Int).toNat-n→encS (l.getD (n+i) ⟨#[]⟩)=encS ((l.drop n).getD i ⟨#[]⟩):=⟨by rw [List.length_drop]; rfl,fun i _=>by
 rw [List.getD_eq_getElem?_getD,List.getD_eq_getElem?_getD,List.getElem?_drop]⟩
theorem app2S {A1 A2 A:List ByteArray} (h:A=A1 ++ A2):A1.length+A2.length=A.length∧∀ i,i<A1.length+A2.length→appF A1.length (fun i=>encS (A1.getD i ⟨#[]⟩)) (fun i=>encS (A2.getD i ⟨#[]⟩)) (0+i)=encS (A.getD i ⟨#[]⟩):=by
 subst h
 refine ⟨by rw [List.length_append],fun i hi=>?_⟩
 rw [Nat.zero_add]
 unfold appF
 rw [List.getD_eq_getElem?_getD (l:=A1 ++ A2),List.getElem?_append]
 cases hb:Nat.blt i A1.length with
 |true =>
  have h1:i<A1.length:=Nat.le_of_ble_eq_true hb
  rw [if_pos h1,← List.getD_eq_getElem?_getD]
  rfl
 |false =>
  have h1:¬ i<A1.length:=fun h=>by
   have:Nat.blt i A1.length=true:=Nat.ble_eq_true_of_le h
   rw [this] at hb; cases hb
  rw [if_neg h1,← List.getD_eq_getElem?_getD]
  rfl
def C354:List AV→(AV→Prop)→Prop:=con (X:=List Int) (fun l=>[slB l]) bytesI fun _ K=>K (.bool true)
theorem F354:FF 3 C354:=by
 refine fitX [(7,C349),(8,C314),(9,C315),(10,C134),(11,C161),(12,C139),(13,C135),(14,C22),(15,C311),(16,C218),(17,C137)] (by simp only [List.mem_cons,List.not_mem_nil,or_false]; rintro _ (rfl|rfl|rfl|rfl|rfl|rfl|rfl|rfl|rfl|rfl|rfl) <;> first|exact F349|exact F314|exact F315|exact F134|exact F161|exact F139|exact F135|exact F22|exact F311|exact F218|exact F137) [] (by simp) Tryz.f3 ⟨rfl,by decide +kernel,by decide +kernel⟩ (by intro x K K2 hk h; (try dsimp only at h ⊢); intros; apply hk; first|exact h|(apply h <;> assumption)) ?_
 rintro L K hL h
 refine ⟨Nat.le_of_ble_eq_true rfl,?_⟩
 have hll:=hL.2
 have htt:(true == true)=true:=rfl
 repeat' (first|refine vz ?_|(conv=>whnf); first|with_reducible first|refine Sp.mk ?_ ?_|refine br_d (fun _=>?_) fun _=>?_|refine vM (fun _=>?_) fun _=>?_)
 ·exact h
 refine ⟨L,?_,⟨hL⟩,?_⟩
 ·exact wq
 rintro ⟨⟨p,bs,rs⟩,past⟩ l hd hl
 have hI:=hd.I
 have hlen:=hd.len
 have hl1:=hl.1
 have hls:∀ s∈l,s.size≤1048576:=fun s hs=>by have:=hl.2 s hs; omega
 dsimp only [enDe,deC]
 repeat' (first|refine vz ?_|(conv=>whnf); first|with_reducible first|refine Sp.mk ?_ ?_|refine br_d (fun _=>?_) fun _=>?_|refine vM (fun _=>?_) fun _=>?_)
 refine ⟨⟨⟨⟨p,bs,rs⟩,past⟩,l⟩,?_,⟨hI,hls,by dsimp only; omega⟩,?_⟩
 ·exact wq
 obtain ⟨r,hr⟩:∃ r,sayX ⟨⟨p,bs,rs⟩,past⟩ l=r:=⟨_,rfl⟩
 have hrl:lenD r.1∧r.2.length≤41:=by
  rw [← hr]
  by_cases q:deskOk ⟨⟨p,bs,rs⟩,past⟩∧l.length≤40
  ·rw [sayX_ok q.1 q.2]
   exact ⟨deskOk_len (sayD_ok q.1 l).1,by rw [sayD_len q.1]; omega⟩
  ·rw [sayX_no q]
   exact ⟨lenD0,by decide⟩
 dsimp only
 rw [hr]
 obtain ⟨⟨⟨xp,xb,xr⟩,xl⟩,A⟩:=r
 obtain ⟨hrl,hA41⟩:=hrl
 dsimp only [enDe,deC] at hrl hA41 ⊢
 repeat' (first|refine vz ?_|(conv=>whnf); first|with_reducible first|refine Sp.mk ?_ ?_|refine br_d (fun _=>?_) fun _=>?_|refine vM (fun _=>?_) fun _=>?_)
 refine ⟨⟨⟨⟨p,bs,rs⟩,past⟩,l⟩,?_,⟨hI,hls,by dsimp only; omega⟩,?_⟩
 ·exact wq
 dsimp only
 rw [hr]
 dsimp only [enDe,deC]
 repeat' (first|refine vz ?_|(conv=>whnf); first|with_reducible first|refine Sp.mk ?_ ?_|refine br_d (fun _=>?_) fun _=>?_|refine vM (fun _=>?_) fun _=>?_)
 refine ⟨⟨⟨xp,xb,xr⟩,xl⟩,?_,⟨hrl⟩,?_⟩
 ·exact wq
 repeat' (first|refine vz ?_|(conv=>whnf); first|with_reducible first|refine Sp.mk ?_ ?_|refine br_d (fun _=>?_) fun _=>?_|refine vM (fun _=>?_) fun _=>?_)
 refine ⟨A,?_,⟨by omega⟩,?_⟩
 ·exact wq
 repeat' (first|refine vz ?_|(conv=>whnf); first|with_reducible first|refine Sp.mk ?_ ?_|refine br_d (fun _=>?_) fun _=>?_|refine vM (fun _=>?_) fun _=>?_)
 refine ⟨⟨⟨p,bs,rs⟩,past⟩,?_,⟨hI⟩,?_⟩
 ·exact wq
 by_cases q:deskOk ⟨⟨p,bs,rs⟩,past⟩∧l.length≤40
 ·obtain ⟨hO,h40⟩:=q
  rw [sayX_ok hO h40] at hr
  have e2:=Int.tdiv_eq_ediv_of_nonneg (a:=(l.length:Int)) (b:=2) (by omega)
  have e3:((l.length:Int).tdiv 2).toNat=l.length / 2:=by omega
  have hx:=sayD_app ⟨⟨p,bs,rs⟩,past⟩ (l.take (l.length / 2)) (l.drop (l.length / 2))
  rw [List.take_append_drop,hr] at hx
  have ht1:=takeS_ext (l:=l) (n:=l.length / 2) (by omega)
  have ht2:=dropS_ext (l:=l) (n:=l.length / 2)
  obtain ⟨hOx,hne,hAl⟩:=sayD_ok hO l
  rw [hr] at hOx hne hAl
  dsimp only at hOx hne hAl
  have hlt:(l.take (l.length / 2)).length≤40:=by rw [List.length_take]; omega
  have hld:(l.drop (l.length / 2)).length≤40:=by rw [List.length_drop]; omega
  dsimp only
  rw [decide_eq_true hO]
  repeat' (first|refine vz ?_|(conv=>whnf); first|with_reducible first|refine Sp.mk ?_ ?_|refine br_d (fun _=>?_) fun _=>?_|refine vM (fun _=>?_) fun _=>?_)
  refine Dr.mk ⟨(.rd 0 (.rd 1 (.rd 2 (.rd 3 (.ef 4 (.rd 5 (.rd 6 (.rd 7 (.ef 8 (.ef 9 (.rd 10 .dn) .no) .no)))) (.ef 8 (.ef 4 (.rd 5 (.rd 6 (.rd 7 (.ef 9 (.rd 10 .dn) .no)))) .no) .no)))))),by decide +kernel,?_⟩
  repeat' (first|refine vz ?_|(conv=>whnf); first|with_reducible first|refine Sp.mk ?_ ?_|refine br_d (fun _=>?_) fun _=>?_|refine vM (fun _=>?_) fun _=>?_)
  all_goals
   rw [e3]
   refine ⟨⟨⟨⟨p,bs,rs⟩,past⟩,l.take (l.length / 2)⟩,?_,⟨hI,fun s hs=>hls s (List.mem_of_mem_take hs),by dsimp only; omega⟩,?_⟩
   ·repeat' ((conv=>whnf); first|with_reducible exact True.intro|exact vW|with_reducible refine And.intro ?_ ?_)
    all_goals exact Chk.mk ht1
   dsimp only
   rw [sayX_ok hO hlt]
   have hO1:=(sayD_ok hO (l.take (l.length / 2))).1
   have hA1:=sayD_len hO (l.take (l.length / 2))
   generalize sayD ⟨⟨p,bs,rs⟩,past⟩ (l.take (l.length / 2))=r1 at hx hO1 hA1 ⊢
   obtain ⟨⟨⟨ap,ab,ar⟩,al⟩,A1⟩:=r1
   dsimp only [enDe,deC] at hx hO1 hA1 ⊢
   repeat' (first|refine vz ?_|(conv=>whnf); first|with_reducible first|refine Sp.mk ?_ ?_|refine br_d (fun _=>?_) fun _=>?_|refine vM (fun _=>?_) fun _=>?_)
  all_goals
   refine Dr.mk ⟨(.rd 0 (.rd 1 (.rd 2 (.rd 3 (.ef 4 (.rd 5 (.rd 6 (.rd 7 (.ef 8 (.ef 9 (.rd 10 .dn) .no) .no)))) (.ef 8 (.ef 4 (.rd 5 (.rd 6 (.rd 7 (.ef 9 (.rd 10 .dn) .no)))) .no) .no)))))),by decide +kernel,?_⟩
   repeat' (first|refine vz ?_|(conv=>whnf); first|with_reducible first|refine Sp.mk ?_ ?_|refine br_d (fun _=>?_) fun _=>?_|refine vM (fun _=>?_) fun _=>?_)
  all_goals
   try rw [e3]
   refine ⟨⟨⟨⟨ap,ab,ar⟩,al⟩,l.drop (l.length / 2)⟩,?_,⟨deskOk_I hO1,fun s hs=>hls s (List.mem_of_mem_drop hs),by dsimp only; omega⟩,?_⟩
   ·repeat' ((conv=>whnf); first|with_reducible exact True.intro|exact vW|with_reducible refine And.intro ?_ ?_)
    all_goals exact Chk.mk ht2
   dsimp only
   rw [sayX_ok hO1 hld]
   have hA2:=sayD_len hO1 (l.drop (l.length / 2))
   generalize sayD ⟨⟨ap,ab,ar⟩,al⟩ (l.drop (l.length / 2))=r2 at hx hA2 ⊢
   obtain ⟨e,A2⟩:=r2
   dsimp only at hx hA2
   injection hx with hx1 hx2
   subst hx1
   dsimp only [enDe,deC]
   repeat' (first|refine vz ?_|(conv=>whnf); first|with_reducible first|refine Sp.mk ?_ ?_|refine br_d (fun _=>?_) fun _=>?_|refine vM (fun _=>?_) fun _=>?_)
  all_goals
   have hplx:(plT ⟨xp,xb,xr⟩).size≤20000:=plT_size hOx.1
   refine Lp.mk ⟨Nat,fun i=>[(4,slS l),(5,.ptr 0 0),(6,slS A),(11,slS A1),(12,.ptr 1 0),(13,slS A2),(14,.int .i64 i)],fun _=>[.box [.int .i64 xp,slI xb,slS xr,slP xl],.box [.int .i64 xp,slI xb,slS xr,slP xl]],fun i=>i≤A.length,fun i=>A.length-i,⟨0,Nat.zero_le _,⟨⟨[some 1,some 4],[],rfl,rfl,?_,?_⟩⟩⟩,?_⟩
   ·exact wq
   ·exact wq
   intro i i1
   dsimp only
   repeat' (first|refine vz ?_|(conv=>whnf); first|with_reducible first|refine Sp.mk ?_ ?_|refine br_d (fun _=>?_) fun _=>?_|refine vM (fun _=>?_) fun _=>?_)
   ·rename_i hi he
    exact absurd he (hne _ (getD_mem' (l:=A) (i:=i) (d:=⟨#[]⟩) (by omega)))
   ·rename_i hi he
    refine ⟨i+1,by omega,by omega,⟨⟨[some 0,some 1],[],rfl,rfl,?_,?_⟩⟩⟩
    ·exact wq
    ·exact wq
   ·refine ⟨⟨⟨⟨xp,xb,xr⟩,xl⟩,wPlace⟩,?_,⟨deskOk_I hOx,by dsimp only; decide⟩,?_⟩
    ·exact wq
    refine ⟨fun _=>?_,fun q=>absurd hOx q⟩
    dsimp only
    rw [line_place]
    dsimp only [enDe,deC]
    repeat' (first|refine vz ?_|(conv=>whnf); first|with_reducible first|refine Sp.mk ?_ ?_|refine br_d (fun _=>?_) fun _=>?_|refine vM (fun _=>?_) fun _=>?_)
    refine ⟨plT ⟨xp,xb,xr⟩,?_,⟨by omega⟩,?_⟩
    ·exact wq
    refine ⟨fun y hy=>?_,fun q=>absurd ⟨_,isPt_new hOx.1⟩ q⟩
    obtain rfl:y=⟨xp,xb,xr⟩:=isPt_one hy (isPt_new hOx.1)
    dsimp only [enPl,plC]
    repeat' (first|refine vz ?_|(conv=>whnf); first|with_reducible first|refine Sp.mk ?_ ?_|refine br_d (fun _=>?_) fun _=>?_|refine vM (fun _=>?_) fun _=>?_)
    refine ⟨⟨⟨xp,xb,xr⟩,xl⟩,?_,⟨hrl⟩,?_⟩
    ·exact wq
    repeat' (first|refine vz ?_|(conv=>whnf); first|with_reducible first|refine Sp.mk ?_ ?_|refine br_d (fun _=>?_) fun _=>?_|refine vM (fun _=>?_) fun _=>?_)
    refine ⟨A,?_,⟨by omega⟩,?_⟩
    ·repeat' ((conv=>whnf); first|with_reducible exact True.intro|exact vW|with_reducible refine And.intro ?_ ?_)
     all_goals exact Chk.mk (app2S hx2)
    have hAl':(A.length:Int)=l.length:=by omega
    repeat' (first|refine vz ?_|(conv=>whnf); first|with_reducible first|refine Sp.mk ?_ ?_|refine br_d (fun _=>?_) fun _=>?_|refine vM (fun _=>?_) fun _=>?_)
    refine ⟨⟨xp,xb,xr⟩,?_,⟨hrl.1⟩,?_⟩
    ·exact wq
    repeat' (first|refine vz ?_|(conv=>whnf); first|with_reducible first|refine Sp.mk ?_ ?_|refine br_d (fun _=>?_) fun _=>?_|refine vM (fun _=>?_) fun _=>?_)
    exact h
 ·rw [sayX_no q] at hr
  cases hr
  have h00:(([]:List ByteArray).length:Int)=0:=rfl
  by_cases hO:deskOk ⟨⟨p,bs,rs⟩,past⟩
  ·have h40:¬ l.length≤40:=fun g=>q ⟨hO,g⟩
   dsimp only
   rw [decide_eq_true hO]
   repeat' (first|refine vz ?_|(conv=>whnf); first|with_reducible first|refine Sp.mk ?_ ?_|refine br_d (fun _=>?_) fun _=>?_|refine vM (fun _=>?_) fun _=>?_)
   refine ⟨(),?_,⟨trivial⟩,?_⟩
   ·exact wq
   repeat' (first|refine vz ?_|(conv=>whnf); first|with_reducible first|refine Sp.mk ?_ ?_|refine br_d (fun _=>?_) fun _=>?_|refine vM (fun _=>?_) fun _=>?_)
   refine ⟨(),?_,⟨trivial⟩,?_⟩
   ·exact wq
   repeat' (first|refine vz ?_|(conv=>whnf); first|with_reducible first|refine Sp.mk ?_ ?_|refine br_d (fun _=>?_) fun _=>?_|refine vM (fun _=>?_) fun _=>?_)
   exact h
  ·dsimp only
   rw [decide_eq_false hO]
   repeat' (first|refine vz ?_|(conv=>whnf); first|with_reducible first|refine Sp.mk ?_ ?_|refine br_d (fun _=>?_) fun _=>?_|refine vM (fun _=>?_) fun _=>?_)
   refine ⟨(),?_,⟨trivial⟩,?_⟩
   ·exact wq
   repeat' (first|refine vz ?_|(conv=>whnf); first|with_reducible first|refine Sp.mk ?_ ?_|refine br_d (fun _=>?_) fun _=>?_|refine vM (fun _=>?_) fun _=>?_)
   refine ⟨(),?_,⟨trivial⟩,?_⟩
   ·exact wq
   repeat' (first|refine vz ?_|(conv=>whnf); first|with_reducible first|refine Sp.mk ?_ ?_|refine br_d (fun _=>?_) fun _=>?_|refine vM (fun _=>?_) fun _=>?_)
   exact h
end Go.Proofs.YtapeebjjljohdaaGreatDoor.Vc
end
section
/- Part YE: laws on stores: breaking down, being made sure, being stores. -/
namespace Go.Proofs.YtapeebjjljohdaaGreatDoor.Vc
open Go.Proofs
set_option maxRecDepth 100000
set_option maxHeartbeats 4000000
theorem drawnS.P {s:Store} (h:drawnS s):storeP s:=⟨⟨by have:=h.1; omega,by have:=h.2.1; omega,⟨by have:=h.2.2.1; omega,by have:=h.2.2.2; omega⟩⟩,by have:=h.1; omega⟩
end Go.Proofs.YtapeebjjljohdaaGreatDoor.Vc
end
section
/- Part YF0: exact laws on stores: saved, acted at. -/
namespace Go.Proofs.YtapeebjjljohdaaGreatDoor.Vc
open Go.Proofs
set_option maxRecDepth 100000
set_option maxHeartbeats 4000000
theorem isSt_P {s:Store} (h:isSt s):storeP s:=by
 obtain ⟨x,hx⟩:=h.1
 have h1:=plT_size hx.1
 rw [hx.2] at h1
 have h2:=h.2.1
 have h3:=h.2.2
 exact ⟨⟨by omega,by omega,⟨by omega,by omega⟩⟩,by omega⟩
end Go.Proofs.YtapeebjjljohdaaGreatDoor.Vc
end
section
/- Part YF: laws on stores: new, saved, opened, acted at. -/
namespace Go.Proofs.YtapeebjjljohdaaGreatDoor.Vc
open Go.Proofs
set_option maxRecDepth 100000
set_option maxHeartbeats 4000000
theorem deskOk_l {d:Desk} (h:deskOk d):lenD d:=⟨⟨Nat.le_trans h.1.1.2.1 (by decide),Nat.lt_of_le_of_lt h.1.2.1.2 (by decide)⟩,Nat.lt_of_le_of_lt h.2.1 (by decide),fun x hx=>⟨Nat.le_trans (h.2.2 x hx).1.2.1 (by decide),Nat.lt_of_le_of_lt (h.2.2 x hx).2.1.2 (by decide)⟩⟩
end Go.Proofs.YtapeebjjljohdaaGreatDoor.Vc
end
section
/- Part YG: the law of stores told to the end. -/
namespace Go.Proofs.YtapeebjjljohdaaGreatDoor.Vc
open Go.Proofs
set_option maxRecDepth 100000
set_option maxHeartbeats 4000000
def C247:=C259
theorem F247:FF 27 C247:=by
 refine fitX [(56,C259)] (by simp only [List.mem_cons,List.not_mem_nil,or_false]; rintro _ rfl <;> first|exact F259) [] (by simp) Tryz.f27 ⟨rfl,by decide +kernel,by decide +kernel⟩ (by intro x K K2 hk h; (try dsimp only at h ⊢); intros; apply hk; first|exact h|(apply h <;> assumption)) ?_
 rintro s K hs h
 refine ⟨Nat.le_of_ble_eq_true rfl,?_⟩
 repeat' (first|refine vz ?_|(conv=>whnf); first|with_reducible first|refine Sp.mk ?_ ?_|refine br_d (fun _=>?_) fun _=>?_|refine vM (fun _=>?_) fun _=>?_)
 refine ⟨s,?_,⟨hs⟩,?_⟩
 ·exact wq
 repeat' (first|refine vz ?_|(conv=>whnf); first|with_reducible first|refine Sp.mk ?_ ?_|refine br_d (fun _=>?_) fun _=>?_|refine vM (fun _=>?_) fun _=>?_)
 exact h
end Go.Proofs.YtapeebjjljohdaaGreatDoor.Vc
end
section
/- Part XO: the law of many deeds at desks. -/
namespace Go.Proofs.YtapeebjjljohdaaGreatDoor.Vc
open Go.Proofs
set_option maxRecDepth 100000
set_option maxHeartbeats 4000000
theorem runX_ok {d:Desk} {l:List Dd} (h:deskOk d) (h40:l.length≤40):runX d l=runD d l:=if_pos ⟨h,h40⟩
theorem runX_no {d:Desk} {l:List Dd} (h:¬ (deskOk d∧l.length≤40)):runX d l=(default,0):=if_neg h
end Go.Proofs.YtapeebjjljohdaaGreatDoor.Vc
end
section
/- Part QU: the law of journals that are cut. -/
namespace Go.Proofs.YtapeebjjljohdaaGreatDoor.Vc
open Go.Proofs
set_option maxRecDepth 100000
set_option maxHeartbeats 4000000
theorem wsum_jl {l:List Dd} (h:∀ x∈l,okDd x):∀ i,i≤l.length→wsum l i≤(jl (l.take i)).length
 |0,_=>Nat.zero_le _
 |i+1,hi=>by
  have h1:=wsum_jl h i (by omega)
  have h2:=words_le (h _ (getD_mem' (l:=l) (i:=i) (d:=default) (by omega)))
  rw [take_step (by omega),jl_app,List.length_append]
  have h3:(jl [l.getD i default]).length=(deedT (l.getD i default)).size+1:=by
   show (lineL (l.getD i default) ++ []).length=_
   rw [List.append_nil,line_len]
  show wsum l i+_≤_
  omega
theorem jr_text (s:ByteArray):jT (jr s)=s.extract 0 (jn s):=by
 obtain ⟨r,hr⟩:=jr_spec s
 apply ByteArray.ext
 apply Array.toList_inj.1
 rw [jT_jl hr.ok,ext_take0,hr.eq]
 exact (List.take_left' rfl).symm
theorem jr_jOk {s:ByteArray} (h:s.size≤100000):jOk (jr s):=by
 obtain ⟨r,hr⟩:=jr_spec s
 have h1:=jn_le s
 have h2:(jl (jr s)).length=jn s:=rfl
 have hw:=wsum_jl hr.ok _ (Nat.le_refl _)
 rw [List.take_length] at hw
 have:=jr_len s
 unfold jOk
 omega
theorem lineD_dd {d:Desk} {a:Dd} (h:okDd a):lineD d (deedT a)=((doD d a).getD d,if (doD d a).isSome then wOk else wNot):=lineD_deed ⟨h,rfl⟩
theorem runD_step {d:Desk} {l:List Dd} {i:Nat} (h:i<l.length):(runD d (l.take (i+1))).1=(doD (runD d (l.take i)).1 (l.getD i default)).getD (runD d (l.take i)).1:=by
 rw [take_step h]
 cases hd:doD (runD d (l.take i)).1 (l.getD i default) with
 |none=>rw [runD_none hd]; rfl
 |some e=>rw [runD_some hd]; rfl
theorem cutD_ext {l m:List Dd} (c1:m=l.take m.length) (c2:m.length≤l.length):((if (l.length:Int)<m.length then (l.length:Int) else m.length).toNat-Int.toNat 0)=m.length∧∀ i,i<((if (l.length:Int)<m.length then (l.length:Int) else m.length).toNat-Int.toNat 0)→encD (l.getD (Int.toNat 0+i) default)=encD (m.getD i default):=by
 rw [if_neg (by omega)]
 refine ⟨rfl,fun i hi=>?_⟩
 replace hi:i<m.length:=hi
 rw [show Int.toNat 0+i=i from Nat.zero_add i,c1,List.getD_eq_getElem?_getD,List.getD_eq_getElem?_getD,List.getElem?_take_of_lt hi]
def C352:List AV→(AV→Prop)→Prop:=con (X:=List Int × List Int) (fun x=>[slB x.1,slB x.2]) (fun x=>bytesI x.1∧bytesI x.2) fun _ K=>K (.bool true)
theorem F352:FF 5 C352:=by
 refine fitX [(26,C350),(27,C247),(28,C246),(29,C253),(20,C241),(12,C139),(30,C104),(15,C311),(31,C242),(32,C114),(10,C134),(14,C22)] (by simp only [List.mem_cons,List.not_mem_nil,or_false]; rintro _ (rfl|rfl|rfl|rfl|rfl|rfl|rfl|rfl|rfl|rfl|rfl|rfl) <;> first|exact F350|exact F247|exact F246|exact F253|exact F241|exact F139|exact F104|exact F311|exact F242|exact F114|exact F134|exact F22) [] (by simp) Tryz.f5 ⟨rfl,by decide +kernel,by decide +kernel⟩ (by intro x K K2 hk h; (try dsimp only at h ⊢); intros; apply hk; first|exact h|(apply h <;> assumption)) ?_
 rintro ⟨L,M⟩ K ⟨hL,hM⟩ h
 refine ⟨Nat.le_of_ble_eq_true rfl,?_⟩
 dsimp only at hL hM h ⊢
 have hll:=hL.2
 have hmm:=hM.2
 have htt:(true == true)=true:=rfl
 repeat' (first|refine vz ?_|(conv=>whnf); first|with_reducible first|refine Sp.mk ?_ ?_|refine br_d (fun _=>?_) fun _=>?_|refine vM (fun _=>?_) fun _=>?_)
 ·exact h
 ·exact h
 refine ⟨L,?_,⟨hL⟩,?_⟩
 ·exact wq
 intro s hs
 repeat' (first|refine vz ?_|(conv=>whnf); first|with_reducible first|refine Sp.mk ?_ ?_|refine br_d (fun _=>?_) fun _=>?_|refine vM (fun _=>?_) fun _=>?_)
 refine ⟨s,?_,⟨by omega⟩,?_⟩
 ·exact wq
 repeat' (first|refine vz ?_|(conv=>whnf); first|with_reducible first|refine Sp.mk ?_ ?_|refine br_d (fun _=>?_) fun _=>?_|refine vM (fun _=>?_) fun _=>?_)
 refine ⟨s,?_,⟨by omega⟩,?_⟩
 ·exact wq
 have hjl:=jr_len s
 have hjn:=jn_le s
 have hjm:∀ a∈jr s,okDd a∧a.words.size≤s.size:=fun a ha=>jr_mem ha
 have hjd:=jr_ded (s:=s) (by omega)
 have htx:=jr_text s
 have hjk:=jr_jOk (s:=s) hs
 have hcut:=fun k=>jr_pre s k
 dsimp only
 generalize jr s=l at hjl hjm hjd htx hjk hcut ⊢
 generalize jn s=n at hjn htx ⊢
 have hnn:(n:Int)=n:=rfl
 repeat' (first|refine vz ?_|(conv=>whnf); first|with_reducible first|refine Sp.mk ?_ ?_|refine br_d (fun _=>?_) fun _=>?_|refine vM (fun _=>?_) fun _=>?_)
 refine ⟨l,?_,⟨by omega⟩,?_⟩
 ·exact wq
 repeat' (first|refine vz ?_|(conv=>whnf); first|with_reducible first|refine Sp.mk ?_ ?_|refine br_d (fun _=>?_) fun _=>?_|refine vM (fun _=>?_) fun _=>?_)
 refine Lp.mk ⟨Nat,fun i=>[(1,slB M),(5,.str s),(6,slD l),(7,.int .i64 n),(10,.int .i64 i)],fun _=>[],fun i=>i≤s.size+1,fun i=>s.size+1-i,⟨0,Nat.zero_le _,⟨⟨[],[],rfl,rfl,?_,?_⟩⟩⟩,?_⟩
 ·exact wq
 ·exact wq
 intro i i1
 dsimp only
 repeat' (first|refine vz ?_|(conv=>whnf); first|with_reducible first|refine Sp.mk ?_ ?_|refine br_d (fun _=>?_) fun _=>?_|refine vM (fun _=>?_) fun _=>?_)
 ·rename_i hi
  have hi':i≤s.size:=by omega
  refine ⟨s.extract 0 i,?_,⟨by dsimp only; rw [ByteArray.size_extract]; omega⟩,?_⟩
  ·exact wq
  obtain ⟨c1,c2,c3⟩:=hcut i
  dsimp only
  generalize jr (s.extract 0 i)=m at c1 c2 ⊢
  generalize jn (s.extract 0 i)=j at c3 ⊢
  repeat' (first|refine vz ?_|(conv=>whnf); first|with_reducible first|refine Sp.mk ?_ ?_|refine br_d (fun _=>?_) fun _=>?_|refine vM (fun _=>?_) fun _=>?_)
  refine ⟨m,?_,⟨by omega⟩,?_⟩
  ·repeat' ((conv=>whnf); first|with_reducible exact True.intro|exact vW|with_reducible refine And.intro ?_ ?_)
   all_goals exact Chk.mk (cutD_ext c1 c2)
  repeat' (first|refine vz ?_|(conv=>whnf); first|with_reducible first|refine Sp.mk ?_ ?_|refine br_d (fun _=>?_) fun _=>?_|refine vM (fun _=>?_) fun _=>?_)
  refine ⟨i+1,by omega,by omega,⟨⟨[],[],rfl,rfl,?_,?_⟩⟩⟩
  ·exact wq
  ·exact wq
 ·rename_i hi
  refine ⟨M,?_,⟨hM⟩,?_⟩
  ·exact wq
  rintro ⟨⟨p,bs,rs⟩,past⟩ l2 hd hl2
  have hI:=hd.I
  have hlen:=hd.len
  dsimp only [enDe,deC]
  repeat' (first|refine vz ?_|(conv=>whnf); first|with_reducible first|refine Sp.mk ?_ ?_|refine br_d (fun _=>?_) fun _=>?_|refine vM (fun _=>?_) fun _=>?_)
  have k1:(⟨#[111,107]⟩:ByteArray)=⟨#[111,107]⟩:=rfl
  have k2:¬ (⟨#[110,111,116]⟩:ByteArray)=⟨#[111,107]⟩:=by decide
  have k3:(⟨#[110,111,116]⟩:ByteArray)=⟨#[110,111,116]⟩:=rfl
  by_cases hO:deskOk ⟨⟨p,bs,rs⟩,past⟩
  ·refine Lp.mk ⟨Nat × Desk,fun x=>[(5,.str s),(6,slD l),(7,.int .i64 n),(13,.ptr 0 0),(15,.ptr 1 0),(16,.int .i64 x.1)],fun x=>[.box [.int .i64 p,slI bs,slS rs,slP past],.box [.int .i64 x.2.now.p,slI x.2.now.bs,slS x.2.now.rules,slP x.2.past]],fun x=>x.1≤l.length∧(runD ⟨⟨p,bs,rs⟩,past⟩ (l.take x.1)).1=x.2,fun x=>l.length-x.1,⟨(0,⟨⟨p,bs,rs⟩,past⟩),⟨Nat.zero_le _,rfl⟩,⟨⟨[some 0,some 1],[],rfl,rfl,?_,?_⟩⟩⟩,?_⟩
   ·exact wq
   ·exact wq
   clear i i1 hi
   rintro ⟨i,⟨⟨ep,eb,er⟩,el⟩⟩ ⟨i1,i2⟩
   dsimp only at i1 i2 ⊢
   have hOe:deskOk ⟨⟨ep,eb,er⟩,el⟩:=by rw [← i2]; exact runD_ok hO _
   by_cases hi:i<l.length
   ·have hst:=runD_step (d:=⟨⟨p,bs,rs⟩,past⟩) hi
    rw [i2] at hst
    obtain ⟨ha,haw⟩:=hjm _ (getD_mem' (d:=default) hi)
    generalize hA:l.getD i default=A at ha haw hst
    have hA':l.getD (i:Int).toNat default=A:=hA
    have hAs:=deedT_size A
    repeat' (first|refine vz ?_|(conv=>whnf); first|with_reducible first|refine Sp.mk ?_ ?_|refine br_d (fun _=>?_) fun _=>?_|refine vM (fun _=>?_) fun _=>?_)
    refine ⟨⟨⟨p,bs,rs⟩,past⟩,?_,⟨hI⟩,?_⟩
    ·exact wq
    dsimp only
    rw [decide_eq_true hO]
    repeat' (first|refine vz ?_|(conv=>whnf); first|with_reducible first|refine Sp.mk ?_ ?_|refine br_d (fun _=>?_) fun _=>?_|refine vM (fun _=>?_) fun _=>?_)
    refine Dr.mk ⟨(.rd 0 (.rd 1 (.rd 2 (.rd 3 (.rd 4 (.ef 5 (.ef 6 (.rd 7 (.rd 8 (.rd 9 (.ef 10 (.ef 11 (.rd 12 .dn) .no) .no)))) (.ef 10 (.ef 6 (.rd 7 (.rd 8 (.rd 9 (.ef 11 (.rd 12 .dn) .no)))) .no) .no)) (.ef 10 (.ef 5 (.ef 6 (.rd 7 (.rd 8 (.rd 9 (.ef 11 (.rd 12 .dn) .no)))) .no) .no) .no))))))),by decide +kernel,?_⟩
    repeat' (first|refine vz ?_|(conv=>whnf); first|with_reducible first|refine Sp.mk ?_ ?_|refine br_d (fun _=>?_) fun _=>?_|refine vM (fun _=>?_) fun _=>?_)
    all_goals
     refine ⟨A,?_,⟨by omega⟩,?_⟩
     ·repeat' ((conv=>whnf); first|with_reducible exact True.intro|exact vW|with_reducible refine And.intro ?_ ?_)
      all_goals first|exact Chk.mk (by rw [hA'])
     repeat' (first|refine vz ?_|(conv=>whnf); first|with_reducible first|refine Sp.mk ?_ ?_|refine br_d (fun _=>?_) fun _=>?_|refine vM (fun _=>?_) fun _=>?_)
    all_goals
     refine ⟨⟨⟨⟨ep,eb,er⟩,el⟩,deedT A⟩,?_,⟨deskOk_I hOe,by dsimp only; omega⟩,?_⟩
     ·exact wq
     refine ⟨fun _=>?_,fun q=>absurd hOe q⟩
     dsimp only
     rw [lineD_dd ha]
     dsimp only
     generalize (doD ⟨⟨ep,eb,er⟩,el⟩ A).isSome=ok
     generalize (doD ⟨⟨ep,eb,er⟩,el⟩ A).getD ⟨⟨ep,eb,er⟩,el⟩=e at hst ⊢
     obtain ⟨⟨fp,fb,fr⟩,fl⟩:=e
     dsimp only [enDe,deC]
     cases ok
    all_goals
     first|rw [if_neg Bool.false_ne_true]|rw [if_pos rfl]
     repeat' (first|refine vz ?_|(conv=>whnf); first|with_reducible first|refine Sp.mk ?_ ?_|refine br_d (fun _=>?_) fun _=>?_|refine vM (fun _=>?_) fun _=>?_)
    all_goals
     refine ⟨(i+1,⟨⟨fp,fb,fr⟩,fl⟩),⟨by dsimp only; omega,hst⟩,by dsimp only; omega,?_⟩
     first|(refine ⟨⟨[some 0,some 1],[],rfl,rfl,?_,?_⟩⟩ <;> (repeat' ((conv=>whnf); first|with_reducible exact True.intro|exact vW|with_reducible refine And.intro ?_ ?_)) <;> fail)
   ·obtain rfl:i=l.length:=by omega
    rw [List.take_length] at i2
    repeat' (first|refine vz ?_|(conv=>whnf); first|with_reducible first|refine Sp.mk ?_ ?_|refine br_d (fun _=>?_) fun _=>?_|refine vM (fun _=>?_) fun _=>?_)
    refine ⟨⟨⟨⟨p,bs,rs⟩,past⟩,l⟩,?_,⟨hI,hjd,by dsimp only; omega⟩,?_⟩
    ·exact wq
    dsimp only
    have hxx:s.extract 0 n=s.extract (Int.toNat 0) ((n:Int)).toNat:=rfl
    have hel:=deskOk_len hOe
    by_cases h40:l.length≤40
    ·rw [runX_ok hO h40]
     generalize runD ⟨⟨p,bs,rs⟩,past⟩ l=r at i2 ⊢
     obtain ⟨e2,cnt⟩:=r
     dsimp only at i2
     subst i2
     dsimp only [enDe,deC]
     repeat' (first|refine vz ?_|(conv=>whnf); first|with_reducible first|refine Sp.mk ?_ ?_|refine br_d (fun _=>?_) fun _=>?_|refine vM (fun _=>?_) fun _=>?_)
     refine Dr.mk ⟨(.rd 0 (.rd 1 (.rd 2 (.rd 3 (.rd 4 (.rd 5 (.rd 7 (.rd 8 (.rd 9 (.ef 6 (.rd 10 (.rd 11 (.rd 12 (.rd 13 (.ef 14 (.rd 15 (.rd 16 (.rd 17 (.rd 18 (.rd 19 (.rd 20 (.rd 21 (.rd 22 (.rd 23 (.ef 24 (.rd 25 (.rd 26 (.rd 27 (.ef 28 (.rd 29 (.rd 30 .dn)) .no)))) .no)))))))))) .no))))) .no)))))))))),by decide +kernel,?_⟩
     repeat' (first|refine vz ?_|(conv=>whnf); first|with_reducible first|refine Sp.mk ?_ ?_|refine br_d (fun _=>?_) fun _=>?_|refine vM (fun _=>?_) fun _=>?_)
     refine ⟨l,?_,⟨hjk⟩,?_⟩
     ·exact wq
     dsimp only
     rw [htx]
     repeat' (first|refine vz ?_|(conv=>whnf); first|with_reducible first|refine Sp.mk ?_ ?_|refine br_d (fun _=>?_) fun _=>?_|refine vM (fun _=>?_) fun _=>?_)
     refine ⟨⟨⟨p,bs,rs⟩,past⟩,?_,⟨hI⟩,?_⟩
     ·exact wq
     dsimp only
     rw [decide_eq_true hO]
     repeat' (first|refine vz ?_|(conv=>whnf); first|with_reducible first|refine Sp.mk ?_ ?_|refine br_d (fun _=>?_) fun _=>?_|refine vM (fun _=>?_) fun _=>?_)
     refine ⟨⟨⟨ep,eb,er⟩,el⟩,?_,⟨hel⟩,?_⟩
     ·exact wq
     repeat' (first|refine vz ?_|(conv=>whnf); first|with_reducible first|refine Sp.mk ?_ ?_|refine br_d (fun _=>?_) fun _=>?_|refine vM (fun _=>?_) fun _=>?_)
     refine ⟨(),?_,⟨trivial⟩,?_⟩
     ·exact wq
     repeat' (first|refine vz ?_|(conv=>whnf); first|with_reducible first|refine Sp.mk ?_ ?_|refine br_d (fun _=>?_) fun _=>?_|refine vM (fun _=>?_) fun _=>?_)
     exact h
    ·rw [runX_no (fun q=>h40 q.2)]
     repeat' (first|refine vz ?_|(conv=>whnf); first|with_reducible first|refine Sp.mk ?_ ?_|refine br_d (fun _=>?_) fun _=>?_|refine vM (fun _=>?_) fun _=>?_)
     refine Dr.mk ⟨(.rd 0 (.rd 1 (.rd 2 (.rd 3 (.rd 4 (.rd 5 (.rd 7 (.rd 8 (.rd 9 (.ef 6 (.rd 10 (.rd 11 (.rd 12 (.rd 13 (.ef 14 (.rd 15 (.rd 16 (.rd 17 (.rd 18 (.rd 19 (.rd 20 (.rd 21 (.rd 22 (.rd 23 (.ef 24 (.rd 25 (.rd 26 (.rd 27 (.ef 28 (.rd 29 (.rd 30 .dn)) .no)))) .no)))))))))) .no))))) .no)))))))))),by decide +kernel,?_⟩
     repeat' (first|refine vz ?_|(conv=>whnf); first|with_reducible first|refine Sp.mk ?_ ?_|refine br_d (fun _=>?_) fun _=>?_|refine vM (fun _=>?_) fun _=>?_)
     refine ⟨l,?_,⟨hjk⟩,?_⟩
     ·exact wq
     dsimp only
     rw [htx]
     repeat' (first|refine vz ?_|(conv=>whnf); first|with_reducible first|refine Sp.mk ?_ ?_|refine br_d (fun _=>?_) fun _=>?_|refine vM (fun _=>?_) fun _=>?_)
     refine ⟨⟨⟨p,bs,rs⟩,past⟩,?_,⟨hI⟩,?_⟩
     ·exact wq
     dsimp only
     rw [decide_eq_true hO]
     repeat' (first|refine vz ?_|(conv=>whnf); first|with_reducible first|refine Sp.mk ?_ ?_|refine br_d (fun _=>?_) fun _=>?_|refine vM (fun _=>?_) fun _=>?_)
     refine ⟨(),?_,⟨trivial⟩,?_⟩
     ·exact wq
     repeat' (first|refine vz ?_|(conv=>whnf); first|with_reducible first|refine Sp.mk ?_ ?_|refine br_d (fun _=>?_) fun _=>?_|refine vM (fun _=>?_) fun _=>?_)
     exact h
  ·refine Lp.mk ⟨Nat,fun i=>[(5,.str s),(6,slD l),(7,.int .i64 n),(13,.ptr 0 0),(15,.ptr 1 0),(16,.int .i64 0)],fun x=>[.box [.int .i64 p,slI bs,slS rs,slP past],.box [.int .i64 p,slI bs,slS rs,slP past]],fun i=>i=0,fun i=>i,⟨0,rfl,⟨⟨[some 0,some 1],[],rfl,rfl,?_,?_⟩⟩⟩,?_⟩
   ·exact wq
   ·exact wq
   intro i i0
   have hxx:s.extract 0 n=s.extract (Int.toNat 0) ((n:Int)).toNat:=rfl
   dsimp only
   by_cases hl0:0<l.length
   ·repeat' (first|refine vz ?_|(conv=>whnf); first|with_reducible first|refine Sp.mk ?_ ?_|refine br_d (fun _=>?_) fun _=>?_|refine vM (fun _=>?_) fun _=>?_)
    refine ⟨⟨⟨p,bs,rs⟩,past⟩,?_,⟨hI⟩,?_⟩
    ·exact wq
    dsimp only
    rw [decide_eq_false hO]
    repeat' (first|refine vz ?_|(conv=>whnf); first|with_reducible first|refine Sp.mk ?_ ?_|refine br_d (fun _=>?_) fun _=>?_|refine vM (fun _=>?_) fun _=>?_)
    refine ⟨⟨⟨⟨p,bs,rs⟩,past⟩,l⟩,?_,⟨hI,hjd,by dsimp only; omega⟩,?_⟩
    ·exact wq
    dsimp only
    rw [runX_no (fun q=>hO q.1)]
    repeat' (first|refine vz ?_|(conv=>whnf); first|with_reducible first|refine Sp.mk ?_ ?_|refine br_d (fun _=>?_) fun _=>?_|refine vM (fun _=>?_) fun _=>?_)
    refine Dr.mk ⟨(.rd 0 (.rd 1 (.rd 2 (.rd 3 (.rd 4 (.rd 5 (.rd 7 (.rd 8 (.rd 9 (.ef 6 (.rd 10 (.rd 11 (.rd 12 (.rd 13 (.ef 14 (.rd 15 (.rd 16 (.rd 17 (.rd 18 (.rd 19 (.rd 20 (.rd 21 (.rd 22 (.rd 23 (.ef 24 (.rd 25 (.rd 26 (.rd 27 (.ef 28 (.rd 29 (.rd 30 .dn)) .no)))) .no)))))))))) .no))))) .no)))))))))),by decide +kernel,?_⟩
    repeat' (first|refine vz ?_|(conv=>whnf); first|with_reducible first|refine Sp.mk ?_ ?_|refine br_d (fun _=>?_) fun _=>?_|refine vM (fun _=>?_) fun _=>?_)
    refine ⟨l,?_,⟨hjk⟩,?_⟩
    ·exact wq
    dsimp only
    rw [htx]
    repeat' (first|refine vz ?_|(conv=>whnf); first|with_reducible first|refine Sp.mk ?_ ?_|refine br_d (fun _=>?_) fun _=>?_|refine vM (fun _=>?_) fun _=>?_)
    refine ⟨⟨⟨p,bs,rs⟩,past⟩,?_,⟨hI⟩,?_⟩
    ·exact wq
    dsimp only
    rw [decide_eq_false hO]
    repeat' (first|refine vz ?_|(conv=>whnf); first|with_reducible first|refine Sp.mk ?_ ?_|refine br_d (fun _=>?_) fun _=>?_|refine vM (fun _=>?_) fun _=>?_)
    refine ⟨(),?_,⟨trivial⟩,?_⟩
    ·exact wq
    repeat' (first|refine vz ?_|(conv=>whnf); first|with_reducible first|refine Sp.mk ?_ ?_|refine br_d (fun _=>?_) fun _=>?_|refine vM (fun _=>?_) fun _=>?_)
    exact h
   ·repeat' (first|refine vz ?_|(conv=>whnf); first|with_reducible first|refine Sp.mk ?_ ?_|refine br_d (fun _=>?_) fun _=>?_|refine vM (fun _=>?_) fun _=>?_)
    refine ⟨⟨⟨⟨p,bs,rs⟩,past⟩,l⟩,?_,⟨hI,hjd,by dsimp only; omega⟩,?_⟩
    ·exact wq
    dsimp only
    rw [runX_no (fun q=>hO q.1)]
    repeat' (first|refine vz ?_|(conv=>whnf); first|with_reducible first|refine Sp.mk ?_ ?_|refine br_d (fun _=>?_) fun _=>?_|refine vM (fun _=>?_) fun _=>?_)
    refine Dr.mk ⟨(.rd 0 (.rd 1 (.rd 2 (.rd 3 (.rd 4 (.rd 5 (.rd 7 (.rd 8 (.rd 9 (.ef 6 (.rd 10 (.rd 11 (.rd 12 (.rd 13 (.ef 14 (.rd 15 (.rd 16 (.rd 17 (.rd 18 (.rd 19 (.rd 20 (.rd 21 (.rd 22 (.rd 23 (.ef 24 (.rd 25 (.rd 26 (.rd 27 (.ef 28 (.rd 29 (.rd 30 .dn)) .no)))) .no)))))))))) .no))))) .no)))))))))),by decide +kernel,?_⟩
    repeat' (first|refine vz ?_|(conv=>whnf); first|with_reducible first|refine Sp.mk ?_ ?_|refine br_d (fun _=>?_) fun _=>?_|refine vM (fun _=>?_) fun _=>?_)
    refine ⟨l,?_,⟨hjk⟩,?_⟩
    ·exact wq
    dsimp only
    rw [htx]
    repeat' (first|refine vz ?_|(conv=>whnf); first|with_reducible first|refine Sp.mk ?_ ?_|refine br_d (fun _=>?_) fun _=>?_|refine vM (fun _=>?_) fun _=>?_)
    refine ⟨⟨⟨p,bs,rs⟩,past⟩,?_,⟨hI⟩,?_⟩
    ·exact wq
    dsimp only
    rw [decide_eq_false hO]
    repeat' (first|refine vz ?_|(conv=>whnf); first|with_reducible first|refine Sp.mk ?_ ?_|refine br_d (fun _=>?_) fun _=>?_|refine vM (fun _=>?_) fun _=>?_)
    refine ⟨(),?_,⟨trivial⟩,?_⟩
    ·exact wq
    repeat' (first|refine vz ?_|(conv=>whnf); first|with_reducible first|refine Sp.mk ?_ ?_|refine br_d (fun _=>?_) fun _=>?_|refine vM (fun _=>?_) fun _=>?_)
    exact h
end Go.Proofs.YtapeebjjljohdaaGreatDoor.Vc
end
section
/- Part YWL: a store and one that is saved in between go the same way: plain. -/
namespace Go.Proofs.YtapeebjjljohdaaGreatDoor.Vc
open Go.Proofs
set_option maxRecDepth 10000
set_option maxHeartbeats 4000000
theorem rule_size {h:House} {w:ByteArray} (hb:bad h w=false):w.size≤35:=by
 obtain ⟨t,ht⟩:=bad_term hb
 obtain ⟨_,g2,g3⟩:=(rdT_iff (by decide)).1 ht
 rw [← g3]
 exact textT_size g2
theorem do_now {d e:Desk} {a:Dd} (hk:a.kind≠4) (h:doD d a=some e):e.now=madeP d.now a∧placeOk (madeP d.now a)∧ptext (madeP d.now a)≠ptext d.now:=by
 unfold doD at h
 rw [if_neg fun q=>hk (congrArg Dd.kind q.1)] at h
 split at h
 ·rename_i g
  cases h
  exact ⟨rfl,g⟩
 ·cases h
theorem do_same {d e v:Desk} {a:Dd} (hk:a.kind≠4) (h:doD d a=some e) (hv:v.now=d.now):∃ f,doD v a=some f∧f.now=e.now:=by
 obtain ⟨h1,h2,h3⟩:=do_now hk h
 refine ⟨⟨madeP v.now a,pushP v.past v.now⟩,?_,?_⟩
 ·unfold doD
  rw [if_neg fun q=>hk (congrArg Dd.kind q.1),hv,if_pos ⟨h2,h3⟩]
 ·rw [h1,hv]
theorem do_words {d e:Desk} {a:Dd} (ho:okDd a) (h:doD d a=some e):a.words.size≤35:=by
 have hz:(⟨#[]⟩:ByteArray).size≤35:=by decide
 rcases ho.k with ⟨_,_,k⟩|⟨k,ka,kb,_⟩|⟨k,_⟩|⟨_,k⟩|⟨_,_,_,k⟩
 ·rw [k]; exact hz
 ·obtain ⟨_,h2,_⟩:=do_now (by omega) h
  have hm:madeP d.now a=⟨d.now.p,d.now.bs,d.now.rules ++ [a.words]⟩:=by
   unfold madeP
   rw [if_neg (by omega),if_pos ⟨k,ka,kb⟩]
  rw [hm] at h2
  exact rule_size (h2.2.2 a.words (List.mem_append_right _ List.mem_cons_self))
 ·obtain ⟨_,h2,_⟩:=do_now (by omega) h
  by_cases hc:consR d.now a.a a.b=true
  ·have hm:madeP d.now a=⟨d.now.p,d.now.bs,d.now.rules.set a.a.toNat a.words⟩:=by
    unfold madeP
    rw [if_neg (by omega),if_neg (by omega),if_pos ⟨k,hc⟩]
   have hin:=consR_in hc
   rw [hm] at h2
   exact rule_size (h2.2.2 a.words (List.mem_set hin.2 _))
  ·have hm:madeP d.now a=default:=by
    unfold madeP
    rw [if_neg (by omega),if_neg (by omega),if_neg fun q=>hc q.2,if_neg (by omega)]
   rw [hm] at h2
   exact absurd h2 no_place
 ·rw [k]; exact hz
 ·rw [k]; exact hz
theorem do_text {d e:Desk} {a:Dd} (ho:okDd a) (h:doD d a=some e):(deedT a).size+1≤48:=by
 have h1:=do_words ho h
 have h2:=deedT_size a
 omega
structure wayI (s:Store) (d:Desk) (v:Store) (k:Nat):Prop where
 st:isSt s
 all:jn s.log=s.log.size
 desk:opD s=d
 st2:isSt v
 all2:jn v.log=v.log.size
 now:(opD v).now=d.now
 len:v.log.size≤48*k
theorem saved_way {s:Store} (h:isSt s):isSt (savedD (opD s))∧jn (savedD (opD s)).log=(savedD (opD s)).log.size∧opD (savedD (opD s))=⟨(opD s).now,[]⟩∧(savedD (opD s)).log.size=0:=by
 have hp:=(opD_ok h).1
 exact ⟨isSt_new hp,jr_nil.2,opD_new hp,rfl⟩
theorem way_0 {s:Store} (h:isSt s):wayI (mended s) (opD (mended s)) (savedD (opD (mended s))) 0:=by
 have hm:=isSt_mended h
 obtain ⟨h1,h2,h3,h4⟩:=saved_way hm
 exact ⟨hm,mended_all s,rfl,h1,h2,by rw [h3],by omega⟩
theorem wayI.more {s v:Store} {d:Desk} {k:Nat} (h:wayI s d v k):wayI s d v (k+1):=⟨h.st,h.all,h.desk,h.st2,h.all2,h.now,by have:=h.len; omega⟩
theorem way_do {s v:Store} {d e:Desk} {k:Nat} {a:Dd} (hk8:k<8) (h:wayI s d v k) (hc:canAct s a) (he:doD d a=some e) (hk:a.kind≠4):canAct v a∧wayI (addL s a) e (addL v a) (k+1)∧wayI (addL s a) e ⟨(addL v a).saved,(addL v a).log,((addL v a).log.size:Nat)⟩ (k+1)∧wayI (addL s a) e (savedD (opD (addL v a))) (k+1):=by
 have he':doD (opD s) a=some e:=by rw [h.desk]; exact he
 obtain ⟨f,hf,hfn⟩:=do_same (v:=opD v) hk he' (by rw [h.desk]; exact h.now)
 have ht:=do_text hc.ok he
 have hlen:=h.len
 have hcv:canAct v a:=⟨h.all2,by rw [hf]; rfl,hc.ok,by omega⟩
 have s1:=isSt_add h.st hc
 have s2:=isSt_add h.st2 hcv
 have a1:=(jr_add h.all hc.ok).2
 have a2:=(jr_add h.all2 hcv.ok).2
 have d1:=opD_add hc he'
 have d2:=opD_add hcv hf
 have z:=add_size v a
 have hl:(addL v a).log.size≤48*(k+1):=by omega
 obtain ⟨w1,w2,w3,w4⟩:=saved_way s2
 exact ⟨hcv,⟨s1,a1,d1,s2,a2,by rw [d2]; exact hfn,hl⟩,⟨s1,a1,d1,isSt_sync s2,a2,by rw [opD_sync,d2]; exact hfn,hl⟩,⟨s1,a1,d1,w1,w2,by rw [w3,d2]; exact hfn,by omega⟩⟩
theorem way_back {s v:Store} {d e:Desk} {k:Nat} {a:Dd} (h:wayI s d v k) (hc:canAct s a) (he:doD d a=some e):wayI (addL s a) e (savedD (opD (addL s a))) (k+1):=by
 have he':doD (opD s) a=some e:=by rw [h.desk]; exact he
 have s1:=isSt_add h.st hc
 obtain ⟨w1,w2,w3,w4⟩:=saved_way s1
 exact ⟨s1,(jr_add h.all hc.ok).2,opD_add hc he',w1,w2,by rw [w3,opD_add hc he'],by omega⟩
end Go.Proofs.YtapeebjjljohdaaGreatDoor.Vc
end
section
/- Part YS: stores that are saved, by both sides. -/
namespace Go.Proofs.YtapeebjjljohdaaGreatDoor.Vc
open Go.Proofs
set_option maxRecDepth 10000
set_option maxHeartbeats 4000000
def C286:List AV→(AV→Prop)→Prop:=con (X:=Store) (fun s=>[enSt s]) storeP fun s K=>optS (saveS s) K
theorem saveS_yes {s:Store} (h:isSt s):saveS s=some (savedD (opD s)):=if_pos h
theorem saveS_no {s:Store} (h:¬ isSt s):saveS s=none:=if_neg h
theorem F286:FF 22 C286:=by
 refine fitX [(52,C220),(53,C281),(54,C166)] (by simp only [List.mem_cons,List.not_mem_nil,or_false]; rintro _ (rfl|rfl|rfl) <;> first|exact F220|exact F281|exact F166) [] (by simp) Tryz.f22 ⟨rfl,by decide +kernel,by decide +kernel⟩ (by intro x K K2 hk h; (try dsimp only at h ⊢); intros; apply hk; first|exact h|(apply h <;> assumption)) ?_
 rintro ⟨a,b,c⟩ K hP h
 refine ⟨Nat.le_of_ble_eq_true rfl,?_⟩
 have hs:=hP.2
 unfold optS at h
 dsimp only [enSt,stC] at hs h ⊢
 repeat' (first|refine vz ?_|(conv=>whnf); first|with_reducible first|refine Sp.mk ?_ ?_|refine br_d (fun _=>?_) fun _=>?_|refine vM (fun _=>?_) fun _=>?_)
 refine ⟨⟨a,b,c⟩,?_,⟨hP⟩,?_⟩
 ·exact wq
 intro o ho
 by_cases hS:isSt ⟨a,b,c⟩
 ·obtain rfl:=ho.2 hS
  rw [saveS_yes hS] at h
  unfold savedD at h
  have hop:=opD_ok hS
  repeat' (first|refine vz ?_|(conv=>whnf); first|with_reducible first|refine Sp.mk ?_ ?_|refine br_d (fun _=>?_) fun _=>?_|refine vM (fun _=>?_) fun _=>?_)
  refine ⟨⟨a,b,c⟩,?_,⟨hS,hs⟩,?_⟩
  ·exact wq
  dsimp only [Option.getD_some,Option.isSome_some] at h ⊢
  generalize opD ⟨a,b,c⟩=e at h hop ⊢
  obtain ⟨⟨ep,eb,er⟩,el⟩:=e
  dsimp only [enDe,deC] at h ⊢
  repeat' (first|refine vz ?_|(conv=>whnf); first|with_reducible first|refine Sp.mk ?_ ?_|refine br_d (fun _=>?_) fun _=>?_|refine vM (fun _=>?_) fun _=>?_)
  refine ⟨⟨ep,eb,er⟩,?_,⟨hop.1⟩,?_⟩
  ·exact wq
  repeat' (first|refine vz ?_|(conv=>whnf); first|with_reducible first|refine Sp.mk ?_ ?_|refine br_d (fun _=>?_) fun _=>?_|refine vM (fun _=>?_) fun _=>?_)
  exact h
 ·obtain rfl:=isf ho hS
  rw [saveS_no hS] at h
  repeat' (first|refine vz ?_|(conv=>whnf); first|with_reducible first|refine Sp.mk ?_ ?_|refine br_d (fun _=>?_) fun _=>?_|refine vM (fun _=>?_) fun _=>?_)
  exact h
end Go.Proofs.YtapeebjjljohdaaGreatDoor.Vc
end
section
/- Part YW: by any way it is the same place. -/
namespace Go.Proofs.YtapeebjjljohdaaGreatDoor.Vc
open Go.Proofs
set_option maxRecDepth 100000
set_option maxHeartbeats 4000000
structure Wy where
 s:Store
 d:Desk
 v:Store
 k:Nat
def C309:List AV→(AV→Prop)→Prop:=con (X:=List Int × List Int) (fun x=>[slB x.1,slB x.2]) (fun x=>bytesI x.1∧bytesI x.2) fun _ K=>K (.bool true)
theorem F309:FF 4 C309:=by
 refine fitX [(18,C296),(19,C279),(14,C22),(20,C241),(21,C282),(22,C286),(23,C284),(24,C239),(25,C278),(10,C134),(17,C137)] (by simp only [List.mem_cons,List.not_mem_nil,or_false]; rintro _ (rfl|rfl|rfl|rfl|rfl|rfl|rfl|rfl|rfl|rfl|rfl) <;> first|exact F296|exact F279|exact F22|exact F241|exact F282|exact F286|exact F284|exact F239|exact F278|exact F134|exact F137) [] (by simp) Tryz.f4 ⟨rfl,by decide +kernel,by decide +kernel⟩ (fun _ _ _ hk h=>hk _ h) ?_
 rintro ⟨L,M⟩ K ⟨hL,hM⟩ h
 refine ⟨Nat.le_of_ble_eq_true rfl,?_⟩
 dsimp only at hL hM h ⊢
 have hll:=hL.2
 have hmm:=hM.2
 have htt:(true == true)=true:=rfl
 repeat' (first|refine vz ?_|(conv=>whnf); first|with_reducible first|refine Sp.mk ?_ ?_|refine br_d (fun _=>?_) fun _=>?_|refine vM (fun _=>?_) fun _=>?_)
 ·exact h
 ·exact h
 refine ⟨L,?_,⟨hL⟩,?_⟩
 ·exact wq
 rintro ⟨a,b,c⟩ hd
 have hP:=hd.P
 dsimp only [enSt,stC]
 repeat' (first|refine vz ?_|(conv=>whnf); first|with_reducible first|refine Sp.mk ?_ ?_|refine br_d (fun _=>?_) fun _=>?_|refine vM (fun _=>?_) fun _=>?_)
 refine ⟨⟨a,b,c⟩,?_,⟨hP⟩,?_⟩
 ·exact wq
 unfold optS
 by_cases hS:isSt ⟨a,b,c⟩
 ·have h0:=way_0 hS
  have eM:=mendS_yes hS
  dsimp only
  rw [eM]
  dsimp only [Option.getD_some,Option.isSome_some]
  generalize mended ⟨a,b,c⟩=m at h0 ⊢
  have hS1:=h0.st
  have eO:=openS_yes hS1
  have eS:=saveS_yes hS1
  have hOd:=opD_ok hS1
  generalize savedD (opD m)=v at h0 eS ⊢
  generalize opD m=D at h0 eO hOd ⊢
  obtain ⟨ma,mb,mc⟩:=m
  have hP1:=isSt_P hS1
  obtain ⟨⟨dp,db,dr⟩,dl⟩:=D
  obtain ⟨va,vb,vc⟩:=v
  dsimp only [enSt,stC]
  repeat' (first|refine vz ?_|(conv=>whnf); first|with_reducible first|refine Sp.mk ?_ ?_|refine br_d (fun _=>?_) fun _=>?_|refine vM (fun _=>?_) fun _=>?_)
  refine ⟨M,?_,⟨hM⟩,?_⟩
  ·exact wq
  rintro ⟨⟨p,bs,rs⟩,past⟩ l hdd hl
  have hl1:=hl.1
  have hla:∀ a∈l,dedI a∧a.words.size≤10000:=fun a ha=>⟨(hl.2 a ha).I,(hl.2 a ha).w0⟩
  dsimp only [enDe,deC]
  repeat' (first|refine vz ?_|(conv=>whnf); first|with_reducible first|refine Sp.mk ?_ ?_|refine br_d (fun _=>?_) fun _=>?_|refine vM (fun _=>?_) fun _=>?_)
  refine ⟨⟨ma,mb,mc⟩,?_,⟨hP1⟩,?_⟩
  ·exact wq
  dsimp only
  rw [eO]
  dsimp only [Option.getD_some,Option.isSome_some,enDe,deC]
  repeat' (first|refine vz ?_|(conv=>whnf); first|with_reducible first|refine Sp.mk ?_ ?_|refine br_d (fun _=>?_) fun _=>?_|refine vM (fun _=>?_) fun _=>?_)
  refine ⟨⟨ma,mb,mc⟩,?_,⟨hP1⟩,?_⟩
  ·exact wq
  unfold optS
  dsimp only
  rw [eS]
  dsimp only [Option.getD_some,Option.isSome_some,enSt,stC]
  repeat' (first|refine vz ?_|(conv=>whnf); first|with_reducible first|refine Sp.mk ?_ ?_|refine br_d (fun _=>?_) fun _=>?_|refine vM (fun _=>?_) fun _=>?_)
  refine Lp.mk ⟨Wy,fun x=>[(5,.ptr 0 0),(8,slD l),(9,.ptr 1 0),(10,.bool true),(11,.ptr 2 0),(12,.bool true),(13,.int .i64 x.k)],fun x=>[.box (stC x.s),.box [.int .i64 x.d.now.p,slI x.d.now.bs,slS x.d.now.rules,slP x.d.past],.box (stC x.v)],fun x=>x.k≤l.length∧x.k≤8∧wayI x.s x.d x.v x.k,fun x=>l.length-x.k,⟨⟨⟨ma,mb,mc⟩,⟨⟨dp,db,dr⟩,dl⟩,⟨va,vb,vc⟩,0⟩,⟨Nat.zero_le _,Nat.zero_le _,h0⟩,?_⟩,?_⟩
  ·first|(refine ⟨⟨[some 0,some 2,some 3],[],rfl,rfl,?_,?_⟩⟩ <;> (repeat' ((conv=>whnf); first|with_reducible exact True.intro|exact vW|with_reducible refine And.intro ?_ ?_)) <;> fail)
  clear h0 eS eO hS1 hP1 hOd eM
  rintro ⟨⟨sa,sb,sc⟩,⟨⟨ep,eb,er⟩,el⟩,⟨ua,ub,uc⟩,k⟩ ⟨i1,i2,hW⟩
  have hPs:=isSt_P hW.st
  have hPv:=isSt_P hW.st2
  have hOe:deskOk ⟨⟨ep,eb,er⟩,el⟩:=by have:=opD_ok hW.st; rw [hW.desk] at this; exact this
  dsimp only [stC] at i1 i2 hW hPs hPv ⊢
  by_cases hk:k<l.length∧k<8
  ·obtain ⟨hk,hk8⟩:=hk
   obtain ⟨ha,haw⟩:=hla _ (getD_mem' (d:=default) hk)
   obtain ⟨A,hA⟩:∃ A,l.getD k default=A:=⟨_,rfl⟩
   rw [hA] at ha haw
   have hA':l.getD (k:Int).toNat default=A:=hA
   repeat' (first|refine vz ?_|(conv=>whnf); first|with_reducible first|refine Sp.mk ?_ ?_|refine br_d (fun _=>?_) fun _=>?_|refine vM (fun _=>?_) fun _=>?_)
   refine Dr.mk ⟨(.rd 0 (.rd 1 (.rd 2 (.rd 3 (.rd 4 (.ef 5 (.rd 6 (.rd 7 (.rd 8 (.ef 9 (.ef 10 (.rd 11 .dn) .no) .no)))) (.ef 9 (.ef 5 (.rd 6 (.rd 7 (.rd 8 (.ef 10 (.rd 11 .dn) .no)))) .no) .no))))))),by decide +kernel,?_⟩
   repeat' (first|refine vz ?_|(conv=>whnf); first|with_reducible first|refine Sp.mk ?_ ?_|refine br_d (fun _=>?_) fun _=>?_|refine vM (fun _=>?_) fun _=>?_)
   all_goals
    refine ⟨⟨⟨sa,sb,sc⟩,A⟩,?_,⟨hPs,ha,by dsimp only; omega⟩,?_⟩
    ·repeat' ((conv=>whnf); first|with_reducible exact True.intro|exact vW|with_reducible refine And.intro ?_ ?_)
     all_goals first|exact Chk.mk (by rw [hA'])
    dsimp only
    by_cases hc:canAct ⟨sa,sb,sc⟩ A
    ·rw [actR_yes hW.st hc,actS_yes hW.st hc]
     obtain ⟨e,he⟩:∃ e,doD ⟨⟨ep,eb,er⟩,el⟩ A=some e:=by
      have:=hc.can
      rw [hW.desk] at this
      exact Option.isSome_iff_exists.1 this
     have hback:=way_back hW hc he
     have hdo:=fun g=>way_do hk8 hW hc he g
     have e1:=afterD_some hOe he
     have e2:=canD_some hOe he
     have hOf:=doD_ok hOe he
     have hPs2:=isSt_P hback.st
     have eS2:=saveS_yes hback.st
     have hv2:=hW.st2
     clear hW hc
     generalize hs2:addL ⟨sa,sb,sc⟩ A=s2 at *
     obtain ⟨s2a,s2b,s2c⟩:=s2
     obtain ⟨⟨fp,fb,fr⟩,fl⟩:=e
     dsimp only [Option.isSome_some,enSt,stC] at *
     repeat' (first|refine vz ?_|(conv=>whnf); first|with_reducible first|refine Sp.mk ?_ ?_|refine br_d (fun _=>?_) fun _=>?_|refine vM (fun _=>?_) fun _=>?_)
     refine Dr.mk ⟨(.rd 0 (.rd 1 (.rd 2 (.rd 3 (.rd 4 (.ef 5 (.rd 6 (.rd 7 (.rd 8 (.ef 9 .dn .no)))) .no)))))),by decide +kernel,?_⟩
     repeat' (first|refine vz ?_|(conv=>whnf); first|with_reducible first|refine Sp.mk ?_ ?_|refine br_d (fun _=>?_) fun _=>?_|refine vM (fun _=>?_) fun _=>?_)
     refine ⟨⟨⟨⟨ep,eb,er⟩,el⟩,A⟩,?_,⟨deskOk_I hOe,ha⟩,?_⟩
     ·repeat' ((conv=>whnf); first|with_reducible exact True.intro|exact vW|with_reducible refine And.intro ?_ ?_)
      all_goals first|exact Chk.mk (by rw [hA'])
     dsimp only
     rw [e1,e2]
     dsimp only [enDe,deC]
     repeat' (first|refine vz ?_|(conv=>whnf); first|with_reducible first|refine Sp.mk ?_ ?_|refine br_d (fun _=>?_) fun _=>?_|refine vM (fun _=>?_) fun _=>?_)
     ·refine ⟨⟨s2a,s2b,s2c⟩,?_,⟨hPs2⟩,?_⟩
      ·exact wq
      unfold optS
      dsimp only
      rw [eS2]
      clear hdo eS2
      generalize savedD (opD ⟨s2a,s2b,s2c⟩)=v2 at hback ⊢
      obtain ⟨wa,wb,wc⟩:=v2
      dsimp only [Option.getD_some,Option.isSome_some,enSt,stC]
      repeat' (first|refine vz ?_|(conv=>whnf); first|with_reducible first|refine Sp.mk ?_ ?_|refine br_d (fun _=>?_) fun _=>?_|refine vM (fun _=>?_) fun _=>?_)
      refine ⟨⟨⟨s2a,s2b,s2c⟩,⟨⟨fp,fb,fr⟩,fl⟩,⟨wa,wb,wc⟩,k+1⟩,⟨by dsimp only; omega,by dsimp only; omega,hback⟩,by dsimp only; omega,?_⟩
      first|(refine ⟨⟨[some 0,some 1,some 2],[],rfl,rfl,?_,?_⟩⟩ <;> (repeat' ((conv=>whnf); first|with_reducible exact True.intro|exact vW|with_reducible refine And.intro ?_ ?_)) <;> fail)
     ·rename_i hk4
      have hk4':A.kind≠4:=fun e=>hk4 (by rw [hA']; exact e)
      obtain ⟨hcv,w1,w2,w3⟩:=hdo hk4'
      clear hdo hback eS2
      have eSy:syncS (addL ⟨ua,ub,uc⟩ A)=some ⟨(addL ⟨ua,ub,uc⟩ A).saved,(addL ⟨ua,ub,uc⟩ A).log,(addL ⟨ua,ub,uc⟩ A).log.size⟩:=if_pos w1.st2
      have eSv:=saveS_yes w1.st2
      have hPz:=isSt_P w1.st2
      refine Dr.mk ⟨(.rd 0 (.rd 1 (.rd 2 (.rd 3 (.rd 4 (.ef 5 (.rd 6 (.rd 7 (.rd 8 (.ef 9 (.ef 10 (.rd 11 .dn) .no) .no)))) (.ef 9 (.ef 5 (.rd 6 (.rd 7 (.rd 8 (.ef 10 (.rd 11 .dn) .no)))) .no) .no))))))),by decide +kernel,?_⟩
      repeat' (first|refine vz ?_|(conv=>whnf); first|with_reducible first|refine Sp.mk ?_ ?_|refine br_d (fun _=>?_) fun _=>?_|refine vM (fun _=>?_) fun _=>?_)
      all_goals
       refine ⟨⟨⟨ua,ub,uc⟩,A⟩,?_,⟨hPv,ha,by dsimp only; omega⟩,?_⟩
       ·repeat' ((conv=>whnf); first|with_reducible exact True.intro|exact vW|with_reducible refine And.intro ?_ ?_)
        all_goals first|exact Chk.mk (by rw [hA'])
       dsimp only
       rw [actR_yes hv2 hcv,actS_yes hv2 hcv]
       generalize addL ⟨ua,ub,uc⟩ A=z at w1 w2 w3 eSy eSv hPz ⊢
       generalize savedD (opD z)=v2 at w3 eSv ⊢
       obtain ⟨za,zb,zc⟩:=z
       obtain ⟨wa,wb,wc⟩:=v2
       dsimp only [Option.isSome_some,enSt,stC] at w2 eSy eSv ⊢
       repeat' (first|refine vz ?_|(conv=>whnf); first|with_reducible first|refine Sp.mk ?_ ?_|refine br_d (fun _=>?_) fun _=>?_|refine vM (fun _=>?_) fun _=>?_)
       ·refine ⟨⟨za,zb,zc⟩,?_,⟨hPz⟩,?_⟩
        ·exact wq
        unfold optS
        dsimp only
        rw [eSy]
        dsimp only [Option.getD_some,Option.isSome_some,enSt,stC]
        repeat' (first|refine vz ?_|(conv=>whnf); first|with_reducible first|refine Sp.mk ?_ ?_|refine br_d (fun _=>?_) fun _=>?_|refine vM (fun _=>?_) fun _=>?_)
        refine ⟨⟨⟨s2a,s2b,s2c⟩,⟨⟨fp,fb,fr⟩,fl⟩,⟨za,zb,zb.size⟩,k+1⟩,⟨by dsimp only; omega,by dsimp only; omega,w2⟩,by dsimp only; omega,?_⟩
        first|(refine ⟨⟨[some 0,some 1,some 2],[],rfl,rfl,?_,?_⟩⟩ <;> (repeat' ((conv=>whnf); first|with_reducible exact True.intro|exact vW|with_reducible refine And.intro ?_ ?_)) <;> fail)
       ·refine ⟨⟨za,zb,zc⟩,?_,⟨hPz⟩,?_⟩
        ·exact wq
        unfold optS
        dsimp only
        rw [eSv]
        dsimp only [Option.getD_some,Option.isSome_some,enSt,stC]
        repeat' (first|refine vz ?_|(conv=>whnf); first|with_reducible first|refine Sp.mk ?_ ?_|refine br_d (fun _=>?_) fun _=>?_|refine vM (fun _=>?_) fun _=>?_)
        refine ⟨⟨⟨s2a,s2b,s2c⟩,⟨⟨fp,fb,fr⟩,fl⟩,⟨wa,wb,wc⟩,k+1⟩,⟨by dsimp only; omega,by dsimp only; omega,w3⟩,by dsimp only; omega,?_⟩
        first|(refine ⟨⟨[some 0,some 1,some 2],[],rfl,rfl,?_,?_⟩⟩ <;> (repeat' ((conv=>whnf); first|with_reducible exact True.intro|exact vW|with_reducible refine And.intro ?_ ?_)) <;> fail)
    ·rw [actR_no hW.st hc,actS_no fun g=>hc g.2]
     dsimp only [Option.isSome_none,enSt,stC]
     repeat' (first|refine vz ?_|(conv=>whnf); first|with_reducible first|refine Sp.mk ?_ ?_|refine br_d (fun _=>?_) fun _=>?_|refine vM (fun _=>?_) fun _=>?_)
     refine ⟨⟨⟨sa,sb,sc⟩,⟨⟨ep,eb,er⟩,el⟩,⟨ua,ub,uc⟩,k+1⟩,⟨by dsimp only; omega,by dsimp only; omega,hW.more⟩,by dsimp only; omega,?_⟩
     first|(refine ⟨⟨[some 0,some 1,some 2],[],rfl,rfl,?_,?_⟩⟩ <;> (repeat' ((conv=>whnf); first|with_reducible exact True.intro|exact vW|with_reducible refine And.intro ?_ ?_)) <;> fail)
  ·have eO1:=openS_yes hW.st
   have eO2:=openS_yes hW.st2
   have hnow:=hW.now
   have hOg:=opD_ok hW.st2
   rw [hW.desk] at eO1
   generalize opD ⟨ua,ub,uc⟩=F at eO2 hnow hOg
   obtain ⟨⟨gp,gb,gr⟩,gl⟩:=F
   dsimp only at hnow
   cases hnow
   repeat' (first|refine vz ?_|(conv=>whnf); first|with_reducible first|refine Sp.mk ?_ ?_|refine br_d (fun _=>?_) fun _=>?_|refine vM (fun _=>?_) fun _=>?_)
   all_goals
    refine ⟨⟨sa,sb,sc⟩,?_,⟨hPs⟩,?_⟩
    ·exact wq
    dsimp only
    rw [eO1]
    dsimp only [Option.getD_some,Option.isSome_some,enDe,deC]
    repeat' (first|refine vz ?_|(conv=>whnf); first|with_reducible first|refine Sp.mk ?_ ?_|refine br_d (fun _=>?_) fun _=>?_|refine vM (fun _=>?_) fun _=>?_)
    refine ⟨⟨ua,ub,uc⟩,?_,⟨hPv⟩,?_⟩
    ·exact wq
    dsimp only
    rw [eO2]
    dsimp only [Option.getD_some,Option.isSome_some,enDe,deC]
    repeat' (first|refine vz ?_|(conv=>whnf); first|with_reducible first|refine Sp.mk ?_ ?_|refine br_d (fun _=>?_) fun _=>?_|refine vM (fun _=>?_) fun _=>?_)
    refine ⟨⟨⟨ep,eb,er⟩,el⟩,?_,⟨deskOk_l hOe⟩,?_⟩
    ·exact wq
    repeat' (first|refine vz ?_|(conv=>whnf); first|with_reducible first|refine Sp.mk ?_ ?_|refine br_d (fun _=>?_) fun _=>?_|refine vM (fun _=>?_) fun _=>?_)
    refine ⟨⟨ep,eb,er⟩,?_,⟨(deskOk_l hOe).1⟩,?_⟩
    ·exact wq
    repeat' (first|refine vz ?_|(conv=>whnf); first|with_reducible first|refine Sp.mk ?_ ?_|refine br_d (fun _=>?_) fun _=>?_|refine vM (fun _=>?_) fun _=>?_)
    exact h
 ·have eM:=mendS_no hS
  dsimp only
  rw [eM]
  dsimp only [Option.getD_none,Option.isSome_none,enSt,stC]
  repeat' (first|refine vz ?_|(conv=>whnf); first|with_reducible first|refine Sp.mk ?_ ?_|refine br_d (fun _=>?_) fun _=>?_|refine vM (fun _=>?_) fun _=>?_)
  refine ⟨(),?_,⟨trivial⟩,?_⟩
  ·exact wq
  repeat' (first|refine vz ?_|(conv=>whnf); first|with_reducible first|refine Sp.mk ?_ ?_|refine br_d (fun _=>?_) fun _=>?_|refine vM (fun _=>?_) fun _=>?_)
  exact h
end Go.Proofs.YtapeebjjljohdaaGreatDoor.Vc
end
section
/- Part BASE: all that the rows of this seat lean on. -/
namespace Go.Proofs.YtapeebjjljohdaaGreatDoor.Vc
end Go.Proofs.YtapeebjjljohdaaGreatDoor.Vc
end
