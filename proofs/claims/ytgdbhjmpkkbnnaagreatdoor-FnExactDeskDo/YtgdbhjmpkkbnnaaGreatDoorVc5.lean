/- Part TM: what a deed makes of a place, by the reference. -/
import Derived.Lib.SplitLaws
import Derived.Lib.AtoiAll
import Derived.Lib.SmallJoins
import Derived.Test.YtgdbhjmpkkbnnaaGreatDoorVc4
section
namespace Go.Proofs.YtgdbhjmpkkbnnaaGreatDoor.Vc
open Go.Proofs
set_option maxRecDepth 10000
set_option maxHeartbeats 4000000
structure Hc where
 h:House
 t:List Mark
 c:Int
def consB (x:Hc):Bool:=decide (termOk x.h x.t) && (decide (crowd x.h.p x.c) && says x.h.bs x.c x.t)
def C209:List AV→(AV→Prop)→Prop:=con (X:=Hc) (fun x=>[enH x.h,slM x.t,.int .i64 x.c]) (fun x=>termI x.h x.t∧i64r x.c) fun x K=>K (.bool (consB x))
theorem sayOk_of' {p:Int} {bs:List Int} {t:List Mark} (h:termOk ⟨p,bs⟩ t) {c:Int} (hc:crowd p c):sayOk ⟨p,bs,t,c⟩:=by
 have pw2:=(pw_le hc.1).2
 have hl:=h.2.1
 have hcl:=hc.2
 exact ⟨by show t.length<4611686018427387904; omega,h.2.2,fun b hb=>by have g:crowd p b:=(h.1.2.2 b hb).1; have:=g.2; omega,hcl.1,by show c<64; omega⟩
theorem F209:FF 85 C209:=by
 refine fitE [(108,C33),(114,C62),(111,C36)] (by simp only [List.mem_cons,List.not_mem_nil,or_false]; rintro _ (rfl|rfl|rfl) <;> first|exact F33|exact F62|exact F36) Tryz.f85 ⟨rfl,by decide +kernel,by decide +kernel⟩ (fun _ _ _ hk h=>hk _ h) ?_
 rintro ⟨⟨p,bs⟩,t,c⟩ K ⟨hI,hc⟩ h
 refine ⟨Nat.le_of_ble_eq_true rfl,?_⟩
 have hp:=hI.1.1
 unfold consB at h
 dsimp only [enH] at h hc hp ⊢
 repeat' (first|refine vz ?_|(conv=>whnf); first|with_reducible first|refine Sp.mk ?_ ?_|refine br_d (fun _=>?_) fun _=>?_|refine vM (fun _=>?_) fun _=>?_)
 refine ⟨(⟨p,bs⟩,t),?_,⟨hI⟩,?_⟩
 ·exact wq
 repeat' (first|refine vz ?_|(conv=>whnf); first|with_reducible first|refine Sp.mk ?_ ?_|refine br_d (fun _=>?_) fun _=>?_|refine vM (fun _=>?_) fun _=>?_)
 ·rename_i hO
  have hO':termOk ⟨p,bs⟩ t:=hO
  rw [decide_eq_true hO',Bool.true_and] at h
  refine ⟨(p,c),?_,⟨hp,hc⟩,?_⟩
  ·exact wq
  repeat' (first|refine vz ?_|(conv=>whnf); first|with_reducible first|refine Sp.mk ?_ ?_|refine br_d (fun _=>?_) fun _=>?_|refine vM (fun _=>?_) fun _=>?_)
  ·rename_i hcr
   have hcr':crowd p c:=hcr
   rw [decide_eq_true hcr',Bool.true_and] at h
   refine ⟨⟨p,bs,t,c⟩,?_,⟨sayOk_of' hO' hcr'⟩,?_⟩
   ·exact wq
   repeat' (first|refine vz ?_|(conv=>whnf); first|with_reducible first|refine Sp.mk ?_ ?_|refine br_d (fun _=>?_) fun _=>?_|refine vM (fun _=>?_) fun _=>?_)
   exact h
  ·rename_i hcr
   have hcr':¬ crowd p c:=hcr
   rw [decide_eq_false hcr',Bool.false_and] at h
   exact h
 ·rename_i hO
  have hO':¬ termOk ⟨p,bs⟩ t:=hO
  rw [decide_eq_false hO',Bool.false_and] at h
  exact h
def consR (x:Place) (r c:Int):Bool:=if 0≤r∧r<x.rules.length then (match rdT 49 x.h (x.rules.getD r.toNat ⟨#[]⟩) with
 |some t=>decide (crowd x.p c) && says x.bs c t
 |none=>false) else false
structure Pc where
 x:Place
 r:Int
 c:Int
def C206:List AV→(AV→Prop)→Prop:=con (X:=Pc) (fun x=>[enPl x.x,.int .i64 x.r,.int .i64 x.c]) (fun x=>placeI x.x∧i64r x.r∧i64r x.c) fun x K=>K (.bool (consR x.x x.r x.c))
theorem rdT_termI {h:House} (hI:houI h) {s:ByteArray} {t:List Mark} (e:rdT 49 h s=some t):termI h t∧termOk h t:=by
 obtain ⟨g1,g2,g3⟩:=(rdT_iff (by decide)).1 e
 have hs:=(read_tr (lo:=49) (bodies_of g2.1) (by decide) (Tr.of g2.2.2)).2 80 (by rw [g3]; exact g1) [] (by simp)
 rw [List.append_nil] at hs
 have hs':eitherP (partF 49 80) (bys (textT t))=some (t,[]):=by rw [hs]; rfl
 have hm:=eitherP_sane (by decide) 80 _ _ _ hs'
 have hl:=g2.2.1
 exact ⟨⟨hI.1,hI.2,hm,by omega⟩,g2⟩
theorem F206:FF 100 C206:=by
 refine fitE [(74,C35),(101,C153),(85,C209)] (by simp only [List.mem_cons,List.not_mem_nil,or_false]; rintro _ (rfl|rfl|rfl) <;> first|exact F35|exact F153|exact F209) Tryz.f100 ⟨rfl,by decide +kernel,by decide +kernel⟩ (fun _ _ _ hk h=>hk _ h) ?_
 rintro ⟨⟨p,bs,rs⟩,r,c⟩ K ⟨hI,hr,hc⟩ h
 refine ⟨Nat.le_of_ble_eq_true rfl,?_⟩
 have hI1:=hI.1
 have hI2:=hI.2.1
 have hI3:=hI.2.2
 unfold consR at h
 dsimp only [enPl,plC] at h hr hc hI2 hI3 ⊢
 repeat' (first|refine vz ?_|(conv=>whnf); first|with_reducible first|refine Sp.mk ?_ ?_|refine br_d (fun _=>?_) fun _=>?_|refine vM (fun _=>?_) fun _=>?_)
 refine ⟨(r,0,rs.length-1),?_,⟨trivial⟩,?_⟩
 ·exact wq
 dsimp only
 repeat' (first|refine vz ?_|(conv=>whnf); first|with_reducible first|refine Sp.mk ?_ ?_|refine br_d (fun _=>?_) fun _=>?_|refine vM (fun _=>?_) fun _=>?_)
 ·rename_i g
  rw [if_pos (by omega)] at h
  have hr2:r.toNat<rs.length:=by omega
  refine Dr.mk ⟨(.rd 0 (.rd 1 (.rd 2 (.rd 3 (.rd 4 (.rd 5 (.rd 6 (.ef 7 (.rd 8 (.rd 9 (.rd 10 (.rd 11 (.rd 12 .dn))))) .no)))))))),by decide +kernel,?_⟩
  repeat' (first|refine vz ?_|(conv=>whnf); first|with_reducible first|refine Sp.mk ?_ ?_|refine br_d (fun _=>?_) fun _=>?_|refine vM (fun _=>?_) fun _=>?_)
  refine ⟨⟨⟨p,bs⟩,rs.getD r.toNat ⟨#[]⟩⟩,?_,⟨hI1,getD_len hI3 hr2⟩,?_⟩
  ·exact wq
  refine And.intro (fun e=>?_) (fun t e=>?_)
  ·have e':rdT 49 (Place.h ⟨p,bs,rs⟩) (rs.getD r.toNat ⟨#[]⟩)=none:=by rw [← rdT_eq]; exact e
   rw [e'] at h
   repeat' (first|refine vz ?_|(conv=>whnf); first|with_reducible first|refine Sp.mk ?_ ?_|refine br_d (fun _=>?_) fun _=>?_|refine vM (fun _=>?_) fun _=>?_)
   refine ⟨⟨⟨p,bs⟩,[],c⟩,?_,⟨⟨hI1.1,hI1.2,by simp,by simp⟩,hc⟩,?_⟩
   ·exact wq
   have hno:consB ⟨⟨p,bs⟩,[],c⟩=false:=by
    unfold consB
    rw [decide_eq_false (fun q=>by have:=q.2.2; simp [walkP] at this)]
    rfl
   dsimp only
   rw [hno]
   repeat' (first|refine vz ?_|(conv=>whnf); first|with_reducible first|refine Sp.mk ?_ ?_|refine br_d (fun _=>?_) fun _=>?_|refine vM (fun _=>?_) fun _=>?_)
   exact h
  ·have e':rdT 49 (Place.h ⟨p,bs,rs⟩) (rs.getD r.toNat ⟨#[]⟩)=some t:=by rw [← rdT_eq]; exact e
   rw [e'] at h
   obtain ⟨ht,hO⟩:=rdT_termI hI1 e'
   repeat' (first|refine vz ?_|(conv=>whnf); first|with_reducible first|refine Sp.mk ?_ ?_|refine br_d (fun _=>?_) fun _=>?_|refine vM (fun _=>?_) fun _=>?_)
   refine ⟨⟨⟨p,bs⟩,t,c⟩,?_,⟨ht,hc⟩,?_⟩
   ·exact wq
   have hyes:consB ⟨⟨p,bs⟩,t,c⟩=(decide (crowd p c) && says bs c t):=by
    unfold consB
    rw [decide_eq_true (show termOk ⟨p,bs⟩ t from hO),Bool.true_and]
   dsimp only
   rw [hyes]
   repeat' (first|refine vz ?_|(conv=>whnf); first|with_reducible first|refine Sp.mk ?_ ?_|refine br_d (fun _=>?_) fun _=>?_|refine vM (fun _=>?_) fun _=>?_)
   exact h
 ·rename_i g
  rw [if_neg (by omega)] at h
  exact h
/-! ### Copies with memory of their own -/
def plG (x:Place):AV:=.agg [.int .i64 x.p,.row 0 1 0 x.bs.length,.row 1 1 0 x.rules.length]
def plO (x:Place):List Obj:=[.row 1 x.bs.length fun i=>encI (x.bs.getD i 0),.row 1 x.rules.length fun i=>encS (x.rules.getD i ⟨#[]⟩)]
def C158g:GC:=conG (X:=Place) (fun x=>[enPl x]) (fun _=>[]) (fun x=>x.rules.length≤100000000∧x.bs.length≤100000000) fun x K=>K (plG x) (plO x)
theorem F158g:GG 70 C158g:=by
 refine fitG [] (by simp) [] (by simp) Tryz.f70 ⟨rfl,by decide +kernel,by decide +kernel⟩ (by intro x K K2 hk h; (try dsimp only at h ⊢); intros; apply hk; first|exact h|(apply h <;> assumption)) ?_
 rintro ⟨p,bs,rs⟩ K ⟨h1,h2⟩ h
 refine ⟨Nat.le_of_ble_eq_true rfl,?_⟩
 unfold plG plO at h
 dsimp only [enPl,plC] at h h1 h2 ⊢
 repeat' (first|refine vz ?_|(conv=>whnf); first|with_reducible first|refine Sp.mk ?_ ?_|refine br_d (fun _=>?_) fun _=>?_|refine vM (fun _=>?_) fun _=>?_)
 refine Dr.mk ⟨(.rd 0 (.rd 1 (.rd 2 (.rd 4 (.rd 5 (.rd 6 (.rd 10 (.rd 11 (.ef 3 (.ef 7 (.rd 8 (.ef 9 (.ef 12 (.rd 13 (.ef 14 .dn .no)) .no) .no)) (.ef 9 (.ef 7 (.rd 8 (.ef 12 (.rd 13 (.ef 14 .dn .no)) .no)) .no) .no)) (.ef 9 (.ef 3 (.ef 7 (.rd 8 (.ef 12 (.rd 13 (.ef 14 .dn .no)) .no)) .no) .no) .no)))))))))),by decide +kernel,?_⟩
 repeat' (first|refine vz ?_|(conv=>whnf); first|with_reducible first|refine Sp.mk ?_ ?_|refine br_d (fun _=>?_) fun _=>?_|refine vM (fun _=>?_) fun _=>?_)
 all_goals
  first
  |(refine ⟨_,_,[some 2,some 3],[],rfl,rfl,?_,?_,h⟩ <;> (repeat' ((conv=>whnf); first|with_reducible exact True.intro|exact vW|with_reducible refine And.intro ?_ ?_)) <;> fail)
  |(refine ⟨_,_,[some 3,some 2],[],rfl,rfl,?_,?_,h⟩ <;> (repeat' ((conv=>whnf); first|with_reducible exact True.intro|exact vW|with_reducible refine And.intro ?_ ?_)) <;> fail)
def C157g:=C158g
theorem F157g:GG 99 C157g:=by
 refine fitG [] (by simp) [] (by simp) Tryz.f99 ⟨rfl,by decide +kernel,by decide +kernel⟩ (by intro x K K2 hk h; (try dsimp only at h ⊢); intros; apply hk; first|exact h|(apply h <;> assumption)) ?_
 rintro ⟨p,bs,rs⟩ K ⟨h1,h2⟩ h
 refine ⟨Nat.le_of_ble_eq_true rfl,?_⟩
 unfold plG plO at h
 dsimp only [enPl,plC] at h h1 h2 ⊢
 repeat' (first|refine vz ?_|(conv=>whnf); first|with_reducible first|refine Sp.mk ?_ ?_|refine br_d (fun _=>?_) fun _=>?_|refine vM (fun _=>?_) fun _=>?_)
 refine Dr.mk ⟨(.rd 0 (.rd 1 (.rd 2 (.rd 4 (.rd 5 (.rd 6 (.rd 10 (.rd 11 (.ef 3 (.ef 7 (.rd 8 (.ef 9 (.ef 12 (.rd 13 (.ef 14 .dn .no)) .no) .no)) (.ef 9 (.ef 7 (.rd 8 (.ef 12 (.rd 13 (.ef 14 .dn .no)) .no)) .no) .no)) (.ef 9 (.ef 3 (.ef 7 (.rd 8 (.ef 12 (.rd 13 (.ef 14 .dn .no)) .no)) .no) .no) .no)))))))))),by decide +kernel,?_⟩
 repeat' (first|refine vz ?_|(conv=>whnf); first|with_reducible first|refine Sp.mk ?_ ?_|refine br_d (fun _=>?_) fun _=>?_|refine vM (fun _=>?_) fun _=>?_)
 all_goals
  first
  |(refine ⟨_,_,[some 2,some 3],[],rfl,rfl,?_,?_,h⟩ <;> (repeat' ((conv=>whnf); first|with_reducible exact True.intro|exact vW|with_reducible refine And.intro ?_ ?_)) <;> fail)
  |(refine ⟨_,_,[some 3,some 2],[],rfl,rfl,?_,?_,h⟩ <;> (repeat' ((conv=>whnf); first|with_reducible exact True.intro|exact vW|with_reducible refine And.intro ?_ ?_)) <;> fail)
theorem ext_sym {α:Type} {enc:α→List AV} {d:α} {l:List α} {n:Nat} {g:Nat→List AV} (h:l.length=n∧∀ j,j<l.length→enc (l.getD j d)=g j):n=l.length∧∀ j,j<n→g (0+j)=enc (l.getD j d):=⟨h.1.symm,fun j hj=>by rw [Nat.zero_add]; exact (h.2 j (by rw [h.1]; exact hj)).symm⟩
theorem consR_in {x:Place} {r c:Int} (h:consR x r c=true):(0≤r∧r<x.rules.length)∧r.toNat<x.rules.length:=by
 unfold consR at h
 split at h
 ·rename_i g
  exact ⟨g,by omega⟩
 ·cases h
theorem ext_set {l:List ByteArray} {x:ByteArray} {n:Nat} (h:n<l.length):l.length=(l.set n x).length∧∀ i,i<l.length→setF (fun j=>encS (l.getD j ⟨#[]⟩)) (0+n) (encS x) (0+i)=encS ((l.set n x).getD i ⟨#[]⟩):=by
 refine ⟨by rw [List.length_set],fun i hi=>?_⟩
 rw [Nat.zero_add,Nat.zero_add,List.getD_eq_getElem?_getD,List.getElem?_set]
 unfold setF
 cases hb:Nat.beq i n with
 |true =>
  obtain rfl:=Nat.eq_of_beq_eq_true hb
  rw [if_pos rfl,if_pos h]
  rfl
 |false =>
  have:=Nat.ne_of_beq_eq_false hb
  rw [if_neg (fun e=>this e.symm),← List.getD_eq_getElem?_getD]
  rfl
theorem ext_cut {l:List ByteArray} {n:Nat} (h:n<l.length):n+(l.length-(n+1))=(l.take n ++ l.drop (n+1)).length∧∀ i,i<n+(l.length-(n+1))→appF n (fun j=>encS (l.getD j ⟨#[]⟩)) (fun j=>encS (l.getD (n+1+j) ⟨#[]⟩)) (0+i)=encS ((l.take n ++ l.drop (n+1)).getD i ⟨#[]⟩):=by
 have:=ext_app (enc:=encS) (d:=⟨#[]⟩) (l:=l) (m:=l.drop (n+1)) (n:=n) (g:=fun j=>encS (l.getD (n+1+j) ⟨#[]⟩)) (by omega) fun j hj=>by
  rw [List.getD_eq_getElem?_getD,List.getD_eq_getElem?_getD,List.getElem?_drop]
 rw [List.length_drop] at this
 exact ext_sym this
def madeP (x:Place) (a:Dd):Place :=
 if a.kind=0∧a.b=0∧a.words=⟨#[]⟩ then ⟨x.p,x.bs ++ [a.a],x.rules⟩
 else if a.kind=1∧a.a=0∧a.b=0 then ⟨x.p,x.bs,x.rules ++ [a.words]⟩
 else if a.kind=2∧consR x a.a a.b=true then ⟨x.p,x.bs,x.rules.set a.a.toNat a.words⟩
 else if a.kind=3∧a.words=⟨#[]⟩∧consR x a.a a.b=true then ⟨x.p,x.bs,x.rules.take a.a.toNat ++ x.rules.drop (a.a.toNat+1)⟩
 else default
section
variable {x:Place} {k a b:Int} {w:ByteArray}
theorem made_0n (h:k=0) (hn:¬ (b=0∧w=⟨#[]⟩)):madeP x ⟨k,a,b,w⟩=default:=by
 unfold madeP
 dsimp only
 rw [if_neg (fun q=>hn q.2),if_neg (by omega),if_neg (by omega),if_neg (by omega)]
theorem made_1n (h:k=1) (hn:¬ (a=0∧b=0)):madeP x ⟨k,a,b,w⟩=default:=by
 unfold madeP
 dsimp only
 rw [if_neg (by omega),if_neg (fun q=>hn q.2),if_neg (by omega),if_neg (by omega)]
theorem made_2n (h:k=2) (hn:consR x a b=false):madeP x ⟨k,a,b,w⟩=default:=by
 unfold madeP
 dsimp only
 rw [if_neg (by omega),if_neg (by omega),if_neg (fun q=>by rw [hn] at q; cases q.2),if_neg (by omega)]
theorem made_3n (h:k=3) (hn:¬ (w=⟨#[]⟩∧consR x a b=true)):madeP x ⟨k,a,b,w⟩=default:=by
 unfold madeP
 dsimp only
 rw [if_neg (by omega),if_neg (by omega),if_neg (by omega),if_neg (fun q=>hn q.2)]
theorem made_n (h0:¬ k=0) (h1:¬ k=1) (h2:¬ k=2) (h3:¬ k=3):madeP x ⟨k,a,b,w⟩=default:=by
 unfold madeP
 dsimp only
 rw [if_neg (by omega),if_neg (by omega),if_neg (by omega),if_neg (by omega)]
theorem made_0 (h:k=0) (h1:b=0) (h2:w=⟨#[]⟩):madeP x ⟨k,a,b,w⟩=⟨x.p,x.bs ++ [a],x.rules⟩:=if_pos ⟨h,h1,h2⟩
theorem made_1 (h:k=1) (h1:a=0) (h2:b=0):madeP x ⟨k,a,b,w⟩=⟨x.p,x.bs,x.rules ++ [w]⟩:=by
 unfold madeP
 dsimp only
 rw [if_neg (by omega),if_pos ⟨h,h1,h2⟩]
theorem made_2 (h:k=2) (h1:consR x a b=true):madeP x ⟨k,a,b,w⟩=⟨x.p,x.bs,x.rules.set a.toNat w⟩:=by
 unfold madeP
 dsimp only
 rw [if_neg (by omega),if_neg (by omega),if_pos ⟨h,h1⟩]
theorem made_3 (h:k=3) (h1:w=⟨#[]⟩) (h2:consR x a b=true):madeP x ⟨k,a,b,w⟩=⟨x.p,x.bs,x.rules.take a.toNat ++ x.rules.drop (a.toNat+1)⟩:=by
 unfold madeP
 dsimp only
 rw [if_neg (by omega),if_neg (by omega),if_neg (by omega),if_pos ⟨h,h1,h2⟩]
end
structure Pd where
 x:Place
 a:Dd
def shortP (x:Place):Prop:=x.rules.length≤100000000∧x.bs.length≤100000000
def dedI (a:Dd):Prop:=i64r a.kind∧i64r a.a∧i64r a.b∧a.words.size<9223372036854775808
def C199:List AV→(AV→Prop)→Prop:=con (X:=Pd) (fun x=>[enPl x.x,ded x.a]) (fun x=>placeI x.x∧shortP x.x∧dedI x.a) fun x K=>K (enPl (madeP x.x x.a))
theorem F199:FF 58 C199:=by
 refine fitXE [(100,C206)] (by simp only [List.mem_cons,List.not_mem_nil,or_false]; rintro _ rfl; exact F206) [(70,C158g)] (by simp only [List.mem_cons,List.not_mem_nil,or_false]; rintro _ rfl; exact F158g) Tryz.f58 ⟨rfl,by decide +kernel,by decide +kernel⟩ (fun _ _ _ hk h=>hk _ h) ?_
 rintro ⟨⟨p,bs,rs⟩,⟨k,a,b,w⟩⟩ K ⟨hI,hs,h1,h2,h3,h4⟩ h
 refine ⟨Nat.le_of_ble_eq_true rfl,?_⟩
 have hs1:=hs.1
 have hs2:=hs.2
 dsimp only [ded,encD,enPl,plC] at h1 h2 h3 h4 hs1 hs2 ⊢
 have x1:=ext_push (enc:=encI) (d:=0) (l:=bs) (x:=a) (g:=fun i=>(fun i=>[[AV.int .i64 a]].getD i [.int .i64 0]) (0+i)) rfl
 have x2:=ext_push (enc:=encS) (d:=⟨#[]⟩) (l:=rs) (x:=w) (g:=fun i=>(fun i=>[[AV.str w]].getD i [.str ⟨#[]⟩]) (0+i)) rfl
 have y1:=ext_sym x1
 have y2:=ext_sym x2
 repeat' (first|refine vz ?_|(conv=>whnf); first|with_reducible first|refine Sp.mk ?_ ?_|refine br_d (fun _=>?_) fun _=>?_|refine vM (fun _=>?_) fun _=>?_)
 refine ⟨_,_,[],[],rfl,?_,?_,⟨p,bs,rs⟩,rfl,rfl,⟨hs⟩,?_⟩
 ·exact wq
 ·exact wq
 dsimp only [plG,plO]
 repeat' (first|refine vz ?_|(conv=>whnf); first|with_reducible first|refine Sp.mk ?_ ?_|refine br_d (fun _=>?_) fun _=>?_|refine vM (fun _=>?_) fun _=>?_)
 ·have e:=made_0 (x:=⟨p,bs,rs⟩) (k:=k) (b:=b) (w:=w) (a:=a) (by assumption) (by assumption) (by assumption)
  replace h:K (enPl (madeP ⟨p,bs,rs⟩ ⟨k,a,b,w⟩)):=h
  rw [e] at h
  refine ⟨_,?_,h⟩
  repeat' ((conv=>whnf); first|with_reducible exact True.intro|exact vW|with_reducible refine And.intro ?_ ?_)
  all_goals first|exact Chk.mk ⟨rfl,fun i _=>by dsimp only; rw [Nat.zero_add]⟩|exact Chk.mk y1
 ·rename_i q1 q2 q3
  have e:=made_0n (x:=⟨p,bs,rs⟩) (a:=a) (b:=b) q1 fun q=>q3 q.2
  replace h:K (enPl (madeP ⟨p,bs,rs⟩ ⟨k,a,b,w⟩)):=h
  rw [e] at h
  refine ⟨_,?_,h⟩
  repeat' ((conv=>whnf); first|with_reducible exact True.intro|exact vW|with_reducible refine And.intro ?_ ?_)
 ·rename_i q1 q2
  have e:=made_0n (x:=⟨p,bs,rs⟩) (a:=a) (b:=b) (w:=w) q1 fun q=>q2 q.1
  replace h:K (enPl (madeP ⟨p,bs,rs⟩ ⟨k,a,b,w⟩)):=h
  rw [e] at h
  refine ⟨_,?_,h⟩
  repeat' ((conv=>whnf); first|with_reducible exact True.intro|exact vW|with_reducible refine And.intro ?_ ?_)
 ·rename_i q1 q2 q3 q4
  have e:=made_1 (x:=⟨p,bs,rs⟩) (w:=w) q1 q2 q3
  replace h:K (enPl (madeP ⟨p,bs,rs⟩ ⟨k,a,b,w⟩)):=h
  rw [e] at h
  refine ⟨_,?_,h⟩
  repeat' ((conv=>whnf); first|with_reducible exact True.intro|exact vW|with_reducible refine And.intro ?_ ?_)
  all_goals first|exact Chk.mk ⟨rfl,fun i _=>by dsimp only; rw [Nat.zero_add]⟩|exact Chk.mk y2
 ·rename_i hw
  exact absurd rfl hw
 ·rename_i q1 q2 q3
  have e:=made_1n (x:=⟨p,bs,rs⟩) (w:=w) (a:=a) (b:=b) q1 fun q=>q3 q.2
  replace h:K (enPl (madeP ⟨p,bs,rs⟩ ⟨k,a,b,w⟩)):=h
  rw [e] at h
  refine ⟨_,?_,h⟩
  repeat' ((conv=>whnf); first|with_reducible exact True.intro|exact vW|with_reducible refine And.intro ?_ ?_)
 ·rename_i q1 q2
  have e:=made_1n (x:=⟨p,bs,rs⟩) (w:=w) (a:=a) (b:=b) q1 fun q=>q2 q.1
  replace h:K (enPl (madeP ⟨p,bs,rs⟩ ⟨k,a,b,w⟩)):=h
  rw [e] at h
  refine ⟨_,?_,h⟩
  repeat' ((conv=>whnf); first|with_reducible exact True.intro|exact vW|with_reducible refine And.intro ?_ ?_)
 ·rename_i q1
  refine ⟨⟨⟨p,bs,rs⟩,a,b⟩,?_,⟨hI,h2,h3⟩,?_⟩
  ·exact wq
  dsimp only
  cases hc:consR ⟨p,bs,rs⟩ a b
  ·have e:=made_2n (x:=⟨p,bs,rs⟩) (w:=w) q1 hc
   repeat' (first|refine vz ?_|(conv=>whnf); first|with_reducible first|refine Sp.mk ?_ ?_|refine br_d (fun _=>?_) fun _=>?_|refine vM (fun _=>?_) fun _=>?_)
   replace h:K (enPl (madeP ⟨p,bs,rs⟩ ⟨k,a,b,w⟩)):=h
   rw [e] at h
   refine ⟨_,?_,h⟩
   repeat' ((conv=>whnf); first|with_reducible exact True.intro|exact vW|with_reducible refine And.intro ?_ ?_)
  ·have hr:=consR_in hc
   dsimp only at hr
   have y3:=ext_set (x:=w) hr.2
   have e:=made_2 (x:=⟨p,bs,rs⟩) (w:=w) q1 hc
   repeat' (first|refine vz ?_|(conv=>whnf); first|with_reducible first|refine Sp.mk ?_ ?_|refine br_d (fun _=>?_) fun _=>?_|refine vM (fun _=>?_) fun _=>?_)
   replace h:K (enPl (madeP ⟨p,bs,rs⟩ ⟨k,a,b,w⟩)):=h
   rw [e] at h
   refine ⟨_,?_,h⟩
   repeat' ((conv=>whnf); first|with_reducible exact True.intro|exact vW|with_reducible refine And.intro ?_ ?_)
   all_goals first|exact Chk.mk ⟨rfl,fun i _=>by dsimp only; rw [Nat.zero_add]⟩|exact Chk.mk y3
 ·rename_i q1 q2
  refine ⟨⟨⟨p,bs,rs⟩,a,b⟩,?_,⟨hI,h2,h3⟩,?_⟩
  ·exact wq
  dsimp only
  cases hc:consR ⟨p,bs,rs⟩ a b
  ·have e:=made_3n (x:=⟨p,bs,rs⟩) (w:=w) (a:=a) (b:=b) q1 fun q=>by rw [hc] at q; cases q.2
   repeat' (first|refine vz ?_|(conv=>whnf); first|with_reducible first|refine Sp.mk ?_ ?_|refine br_d (fun _=>?_) fun _=>?_|refine vM (fun _=>?_) fun _=>?_)
   replace h:K (enPl (madeP ⟨p,bs,rs⟩ ⟨k,a,b,w⟩)):=h
   rw [e] at h
   refine ⟨_,?_,h⟩
   repeat' ((conv=>whnf); first|with_reducible exact True.intro|exact vW|with_reducible refine And.intro ?_ ?_)
  ·have hr:=consR_in hc
   dsimp only at hr
   have y3:=ext_cut hr.2
   have e:=made_3 (x:=⟨p,bs,rs⟩) (w:=w) q1 q2 hc
   repeat' (first|refine vz ?_|(conv=>whnf); first|with_reducible first|refine Sp.mk ?_ ?_|refine br_d (fun _=>?_) fun _=>?_|refine vM (fun _=>?_) fun _=>?_)
   have e5:(a+1).toNat=a.toNat+1:=by omega
   have y4:a.toNat-Int.toNat 0+((rs.length:Int).toNat-(a+1).toNat)=(rs.take a.toNat ++ rs.drop (a.toNat+1)).length∧∀ i,i<a.toNat-Int.toNat 0+((rs.length:Int).toNat-(a+1).toNat)→appF (a.toNat-Int.toNat 0) (fun i=>(fun i=>encS (rs.getD i ⟨#[]⟩)) (Int.toNat 0+i)) (fun i=>(fun i=>encS (rs.getD i ⟨#[]⟩)) ((a+1).toNat+i)) (0+i)=encS ((rs.take a.toNat ++ rs.drop (a.toNat+1)).getD i ⟨#[]⟩):=by
    rw [e5,show Int.toNat 0=0 from rfl,Nat.sub_zero,Int.toNat_natCast]
    simp only [Nat.zero_add] at y3 ⊢
    exact y3
   refine Dr.mk ⟨(.rd 0 (.rd 1 (.rd 3 (.rd 4 (.rd 5 (.rd 6 (.rd 7 (.rd 9 (.rd 10 (.rd 11 (.rd 12 (.rd 13 (.rd 14 (.ef 2 (.ef 8 (.ef 15 (.rd 16 (.ef 17 .dn .no)) .no) .no) .no)))))))))))))),by decide +kernel,?_⟩
   repeat' (first|refine vz ?_|(conv=>whnf); first|with_reducible first|refine Sp.mk ?_ ?_|refine br_d (fun _=>?_) fun _=>?_|refine vM (fun _=>?_) fun _=>?_)
   replace h:K (enPl (madeP ⟨p,bs,rs⟩ ⟨k,a,b,w⟩)):=h
   rw [e] at h
   refine ⟨_,?_,h⟩
   repeat' ((conv=>whnf); first|with_reducible exact True.intro|exact vW|with_reducible refine And.intro ?_ ?_)
   all_goals first|exact Chk.mk ⟨rfl,fun i _=>by dsimp only; rw [Nat.zero_add]⟩|exact Chk.mk y4
 ·rename_i q1 q2
  have e:=made_3n (x:=⟨p,bs,rs⟩) (a:=a) (b:=b) (w:=w) q1 fun q=>q2 q.1
  replace h:K (enPl (madeP ⟨p,bs,rs⟩ ⟨k,a,b,w⟩)):=h
  rw [e] at h
  refine ⟨_,?_,h⟩
  repeat' ((conv=>whnf); first|with_reducible exact True.intro|exact vW|with_reducible refine And.intro ?_ ?_)
 ·have e:=made_n (x:=⟨p,bs,rs⟩) (a:=a) (b:=b) (w:=w) (by assumption) (by assumption) (by assumption) (by assumption)
  replace h:K (enPl (madeP ⟨p,bs,rs⟩ ⟨k,a,b,w⟩)):=h
  rw [e] at h
  refine ⟨_,?_,h⟩
  repeat' ((conv=>whnf); first|with_reducible exact True.intro|exact vW|with_reducible refine And.intro ?_ ?_)
end Go.Proofs.YtgdbhjmpkkbnnaaGreatDoor.Vc
end
section
/- Part OR: deeds that come in, opened. -/
namespace Go.Proofs.YtgdbhjmpkkbnnaaGreatDoor.Vc
open Go.Proofs Go.ChangeShapes Go.WideShapes Go.ChangeAt Go.RowKit
section
variable (P:Program)
def IsDeed (t:TypeId):Prop:=P.cellsOf t=4∧∃ f0 f1 f2 f3,P.underlying t=some (.struct #[f0,f1,f2,f3])∧f0.offset=0∧f1.offset=1∧f2.offset=2∧f3.offset=3∧P.underlying f0.type=some (.int .i64)∧P.underlying f1.type=some (.int .i64)∧P.underlying f2.type=some (.int .i64)∧P.underlying f3.type=some .string∧P.cellsOf f0.type=1∧P.cellsOf f1.type=1∧P.cellsOf f2.type=1∧P.cellsOf f3.type=1
end
section
variable {H:Type} {enc:TypeId × Value→H} {P:Program} {w:World} {spare:Nat→Bool} {held:Bool}
theorem op_deedT {t:TypeId} {v:Value} {d:DataW H} {ps:List MemPlace} {r:Reach} {b0:Nat} (hT:IsDeed P t) (hv:Value.okWide P w r b0 t v) (h:DataW.Trod enc P w 0 spare held t v d ps):∃ h:Dd,PV (Rw0 w) w (ded h) v∧dedI h:=by
 obtain ⟨ce,f0,f1,f2,f3,ht,o0,o1,o2,o3,k0,k1,k2,k3,c0,c1,c2,c3⟩:=hT
 obtain ⟨cs,rfl,hcs⟩:=okWide_struct ht hv
 obtain ⟨fuel,hf⟩:=h
 obtain ⟨y0,y1,y2,y3,n,_,hl,g0,g1,g2,g3⟩:=Go.Joins.trod_struct4 ht hf
 have e0:(Value.agg cs).cells.toList=cs.toList:=rfl
 rw [e0] at g0 g1 g2 g3 hl
 rw [ce] at hl
 obtain ⟨cs⟩:=cs
 match cs,hl with
 |[v0,v1,v2,v3],_ =>
  simp [o0,o1,o2,o3,c0,c1,c2,c3] at g0 g1 g2 g3
  obtain ⟨k,e1,_,w0⟩:=DataW.trod_int k0 g0
  obtain ⟨a,e2,_,w1⟩:=DataW.trod_int k1 g1
  obtain ⟨b,e3,_,w2⟩:=DataW.trod_int k2 g2
  obtain ⟨s,e4,_,w3⟩:=DataW.trod_string k3 g3
  simp only [List.cons.injEq,and_true] at e1 e2 e3 e4
  subst e1; subst e2; subst e3; subst e4
  have:maxLen=9223372036854775807:=rfl
  refine ⟨⟨k,a,b,s⟩,.agg _ _ rfl fun j hj=>?_,i64_wf w0,i64_wf w1,i64_wf w2,by show s.size<_; omega⟩
  match j,hj with
  |0,_=>exact .data (.int _ _)
  |1,_=>exact .data (.int _ _)
  |2,_=>exact .data (.int _ _)
  |3,_=>exact .data (.str _)
end
end Go.Proofs.YtgdbhjmpkkbnnaaGreatDoor.Vc
end
section
/- Part DC: the reference text of a deed. -/
namespace Go.Proofs.YtgdbhjmpkkbnnaaGreatDoor.Vc
open Go.Proofs
theorem containsAny_eq (chars:List UInt8):∀ l:List UInt8,Lib.containsAny l chars=l.any chars.contains
 |[]=>rfl
 |b :: l=>by
  have ih':0≤Lib.indexAny l chars ↔ l.any chars.contains=true:=by rw [← containsAny_eq chars l]; simp [Lib.containsAny]
  have hg:=Lib.indexAny_ge chars l
  rw [Bool.eq_iff_iff,List.any_cons,Bool.or_eq_true,← ih']
  show decide (0≤Lib.indexAny (b :: l) chars)=true ↔ _
  rw [decide_eq_true_eq,Lib.indexAny]
  split
  ·rename_i e; exact ⟨fun _=>Or.inl e,fun _=>Int.le_refl 0⟩
  ·rename_i e
   simp only [beq_iff_eq]
   have e':¬ chars.contains b=true:=e
   split
   ·rename_i e1; rw [e1]; exact ⟨fun h=>absurd h (by decide),fun h=>h.elim (fun h=>absurd h e') id⟩
   ·constructor
    ·intro _; right; omega
    ·rintro (h|h)
     ·exact absurd h e'
     ·omega
end Go.Proofs.YtgdbhjmpkkbnnaaGreatDoor.Vc
end
section
/- Part DD: the laws on the texts of deeds and journals. -/
namespace Go.Proofs.YtgdbhjmpkkbnnaaGreatDoor.Vc
open Go.Proofs
set_option maxRecDepth 10000
set_option maxHeartbeats 4000000
end Go.Proofs.YtgdbhjmpkkbnnaaGreatDoor.Vc
end
section
/- Part DE: the law on the texts of journals. -/
namespace Go.Proofs.YtgdbhjmpkkbnnaaGreatDoor.Vc
open Go.Proofs
set_option maxRecDepth 10000
set_option maxHeartbeats 4000000
abbrev slD (l:List Dd):AV:=.sl 4 l.length fun i=>encD (l.getD i default)
def wsum (l:List Dd):Nat→Nat
 |0=>0
 |i+1=>wsum l i+(l.getD i default).words.size
def C116:List AV→(AV→Prop)→Prop:=con (X:=Dd) (fun m=>[ded m,ded m]) (fun _=>True) fun _ K=>K (.bool true)
theorem F116:FF 63 C116:=by
 refine fitE [] (by simp) Tryz.f63 ⟨rfl,by decide +kernel,by decide +kernel⟩ (fun _ _ _ hk h=>hk _ h) ?_
 rintro ⟨k,a,b,w⟩ K _ h
 refine ⟨Nat.le_of_ble_eq_true rfl,?_⟩
 dsimp only [ded,encD] at h ⊢
 repeat' (first|refine vz ?_|(conv=>whnf); first|with_reducible first|refine Sp.mk ?_ ?_|refine br_d (fun _=>?_) fun _=>?_|refine vM (fun _=>?_) fun _=>?_)
 all_goals first|exact h|(rename_i hne; exact absurd rfl hne)
def C115:List AV→(AV→Prop)→Prop:=con (X:=List Dd) (fun l=>[slD l,slD l]) (fun l=>l.length≤1048576) fun _ K=>K (.bool true)
theorem F115:FF 30 C115:=by
 refine fitE [(63,C116)] (by simp only [List.mem_cons,List.not_mem_nil,or_false]; rintro _ rfl <;> first|exact F116) Tryz.f30 ⟨rfl,by decide +kernel,by decide +kernel⟩ (fun _ _ _ hk h=>hk _ h) ?_
 rintro l K h1 h
 refine ⟨Nat.le_of_ble_eq_true rfl,?_⟩
 repeat' (first|refine vz ?_|(conv=>whnf); first|with_reducible first|refine Sp.mk ?_ ?_|refine br_d (fun _=>?_) fun _=>?_|refine vM (fun _=>?_) fun _=>?_)
 refine Lp.mk ⟨Nat,fun i=>[(0,slD l),(1,slD l),(5,.int .i64 i)],fun i=>[],fun i=>i≤l.length,fun i=>l.length-i,⟨0,Nat.zero_le _,⟨⟨[],[],rfl,rfl,?_,?_⟩⟩⟩,?_⟩
 ·exact wq
 ·exact wq
 intro i i1
 dsimp only
 repeat' (first|refine vz ?_|(conv=>whnf); first|with_reducible first|refine Sp.mk ?_ ?_|refine br_d (fun _=>?_) fun _=>?_|refine vM (fun _=>?_) fun _=>?_)
 ·refine Dr.mk ⟨(.rd 0 (.rd 1 (.rd 2 (.rd 3 (.rd 4 (.rd 5 (.rd 6 (.rd 7 (.ef 8 (.rd 9 .dn) .no))))))))),by decide +kernel,?_⟩
  repeat' (first|refine vz ?_|(conv=>whnf); first|with_reducible first|refine Sp.mk ?_ ?_|refine br_d (fun _=>?_) fun _=>?_|refine vM (fun _=>?_) fun _=>?_)
  refine ⟨l.getD i default,?_,⟨trivial⟩,?_⟩
  ·exact wq
  repeat' (first|refine vz ?_|(conv=>whnf); first|with_reducible first|refine Sp.mk ?_ ?_|refine br_d (fun _=>?_) fun _=>?_|refine vM (fun _=>?_) fun _=>?_)
  refine ⟨i+1,by show i+1≤l.length; omega,by show l.length-(i+1)<l.length-i; omega,⟨⟨[],[],rfl,rfl,?_,?_⟩⟩⟩
  ·exact wq
  ·exact wq
 ·exact h
def cpD (l:List Dd) (i:Nat):Nat→List AV:=fun j=>if j<i then encD (l.getD j default) else [.int .i64 0,.int .i64 0,.int .i64 0,.str ⟨#[]⟩]
theorem cpD_step {l:List Dd} {i j:Nat}:cpD l (i+1) j=setF (cpD l i) i (encD (l.getD i default)) j:=by
 unfold cpD setF
 cases h:Nat.beq j i with
 |true =>
  obtain rfl:=Nat.eq_of_beq_eq_true h
  rw [if_pos (by omega)]; rfl
 |false =>
  have:=Nat.ne_of_beq_eq_false h
  simp only [cond_false]
  by_cases hj:j<i
  ·rw [if_pos hj,if_pos (by omega)]
  ·rw [if_neg hj,if_neg (by omega)]
theorem cpD_at {l:List Dd} {i:Nat}:cpD l i i=[.int .i64 0,.int .i64 0,.int .i64 0,.str ⟨#[]⟩]:=if_neg (Nat.lt_irrefl _)
theorem cpD_end {l:List Dd} {i:Nat} (h:¬ i<l.length):(fun j=>cpD l i (0+j))=fun j=>encD (l.getD j default):=by
 funext j
 unfold cpD
 rw [Nat.zero_add]
 by_cases hj:j<i
 ·rw [if_pos hj]
 ·rw [if_neg hj,List.getD_eq_getElem?_getD,List.getElem?_eq_none (by omega)]
  rfl
end Go.Proofs.YtgdbhjmpkkbnnaaGreatDoor.Vc
end
section
/- Part OS: lists of deeds that come in, opened. -/
namespace Go.Proofs.YtgdbhjmpkkbnnaaGreatDoor.Vc
open Go.Proofs Go.ChangeShapes Go.WideShapes Go.ChangeAt Go.RowKit
def IsDeeds (P:Program) (t:TypeId):Prop:=P.cellsOf t=1∧∃ e,P.underlying t=some (.slice e)∧IsDeed P e
section
variable {H:Type} {enc:TypeId × Value→H} {P:Program} {w:World} {spare:Nat→Bool} {held:Bool}
def vDd (m:Dd):List Value:=[.int .i64 m.kind,.int .i64 m.a,.int .i64 m.b,.string m.words]
theorem op_deedC {t:TypeId} {fuel:Nat} {cs:List Value} {x:DataW H × List MemPlace} (hT:IsDeed P t) (h:DataW.trod enc P w 0 spare held fuel t cs=some x):∃ m:Dd,cs=vDd m∧dedI m:=by
 obtain ⟨ce,f0,f1,f2,f3,ht,o0,o1,o2,o3,k0,k1,k2,k3,c0,c1,c2,c3⟩:=hT
 obtain ⟨y0,y1,y2,y3,n,_,hl,g0,g1,g2,g3⟩:=Go.Joins.trod_struct4 ht h
 rw [ce] at hl
 match cs,hl with
 |[v0,v1,v2,v3],_ =>
  simp [o0,o1,o2,o3,c0,c1,c2,c3] at g0 g1 g2 g3
  obtain ⟨k,e1,_,w0⟩:=DataW.trod_int k0 g0
  obtain ⟨a,e2,_,w1⟩:=DataW.trod_int k1 g1
  obtain ⟨b,e3,_,w2⟩:=DataW.trod_int k2 g2
  obtain ⟨s,e4,_,w3⟩:=DataW.trod_string k3 g3
  simp only [List.cons.injEq,and_true] at e1 e2 e3 e4
  subst e1; subst e2; subst e3; subst e4
  have:maxLen=9223372036854775807:=rfl
  exact ⟨⟨k,a,b,s⟩,rfl,i64_wf w0,i64_wf w1,i64_wf w2,by show s.size<_; omega⟩
theorem op_deeds {t:TypeId} {fuel:Nat} {v:Value} {x:DataW H × List MemPlace} (hT:IsDeeds P t) (h:DataW.trod enc P w 0 spare held fuel t [v]=some x):∃ l:List Dd,DR (Rw0 w) w (slD l) v∧(∀ m∈l,dedI m)∧l.length<9223372036854775808:=by
 obtain ⟨_,e,ht,hE⟩:=hT
 have ce:=hE.1
 rcases DataW.trod_slice ht h with ⟨hcs,_⟩|⟨a,len,cap,elems,rest,n,_,hcs,_,_,hl,hm,hel,hx,_,_⟩
 ·simp only [List.cons.injEq,and_true] at hcs
  subst hcs
  exact ⟨[],.sl0 _ _ _ _,fun n hn=>(by cases hn),by decide⟩
 ·simp only [List.cons.injEq,and_true] at hcs
  subst hcs
  rw [ce] at hx
  have each:∀ i,i<len→∃ m:Dd,dedI m∧∀ j,j<4→w.cell? (a.add (i*4+j))=some ((vDd m).getD j Go.undef):=by
   intro i hi
   have h1:=hx i hi
   rw [List.getElem?_eq_getElem (by omega),Option.bind_eq_some_iff] at h1
   obtain ⟨cs,h2,h3⟩:=h1
   obtain ⟨_,hlen,hcell⟩:=World.cells?_some h2
   obtain ⟨m,rfl,hmi⟩:=op_deedC hE h3
   refine ⟨m,hmi,fun j hj=>?_⟩
   have:=hcell j hj
   rw [add_add] at this
   rw [this,List.getD_eq_getElem?_getD,List.getElem?_eq_getElem (by simpa [vDd] using hj)]
   rfl
  obtain ⟨l,h1,h2⟩:=choose_lt' each
  subst h1
  refine ⟨l,?_,all_of_getD (d:=default) fun i hi=>(h2 i hi).1,by have:maxLen=9223372036854775807:=rfl; omega⟩
  rcases Nat.eq_zero_or_pos l.length with h0|hpos
  ·show DR _ _ (.sl 4 l.length _) (.slice _ l.length _)
   rw [h0]
   exact .sl0 _ _ _ _
  have hb:=cell_lt ((h2 0 hpos).2 0 (by decide))
  rw [add_block] at hb
  refine .sl 4 l.length _ a cap (fun i j=>(vDd (l.getD i default)).getD j Go.undef) hl hb (fun _ _=>rfl) (fun i hi j hj=>(h2 i hi).2 j hj) (fun i hi j hj=>?_)
  match j,hj with
  |0,_=>exact .int _ _
  |1,_=>exact .int _ _
  |2,_=>exact .int _ _
  |3,_=>exact .str _
end
end Go.Proofs.YtgdbhjmpkkbnnaaGreatDoor.Vc
end
section
/- Part ZO: the readers of a code. -/
namespace Go.Proofs.YtgdbhjmpkkbnnaaGreatDoor.Vc
open Go.Proofs
set_option maxRecDepth 10000
set_option maxHeartbeats 4000000
structure Rd where
 b:List Int
 p:Int
def Rd.ok (r:Rd):Prop:=r.b.length≤2000∧(∀ n∈r.b,u8r n)∧0≤r.p∧r.p≤1000000000
end Go.Proofs.YtgdbhjmpkkbnnaaGreatDoor.Vc
end
section
/- Part ZP: houses and terms that are drawn. -/
namespace Go.Proofs.YtgdbhjmpkkbnnaaGreatDoor.Vc
open Go.Proofs
set_option maxRecDepth 10000
set_option maxHeartbeats 4000000
end Go.Proofs.YtgdbhjmpkkbnnaaGreatDoor.Vc
end
section
/- Part ZQ: terms that are drawn. -/
namespace Go.Proofs.YtgdbhjmpkkbnnaaGreatDoor.Vc
open Go.Proofs
set_option maxRecDepth 10000
set_option maxHeartbeats 4000000
end Go.Proofs.YtgdbhjmpkkbnnaaGreatDoor.Vc
end
section
/- Part TK: places that are drawn. -/
namespace Go.Proofs.YtgdbhjmpkkbnnaaGreatDoor.Vc
open Go.Proofs
set_option maxRecDepth 10000
set_option maxHeartbeats 4000000
structure drawnP (x:Place):Prop where
 p0:0≤x.p
 p1:x.p≤7
 bl:x.bs.length≤4
 bb:∀ b∈x.bs,0≤b∧b≤64
 rl:x.rules.length≤4
 rr:∀ r∈x.rules,r.size≤10000
theorem drawnP.I {x:Place} (h:drawnP x):placeI x:=⟨⟨⟨⟨by have:=h.p0; show -9223372036854775808≤x.p; omega,by have:=h.p1; show x.p≤9223372036854775807; omega⟩,fun b hb=>by have:=h.bb b hb; exact ⟨by omega,by omega⟩⟩,by have:=h.bl; show x.bs.length<_; omega⟩,by have:=h.rl; omega,fun r hr=>by have:=h.rr r hr; omega⟩
theorem drawnP.len {x:Place} (h:drawnP x):lenI x:=⟨by have:=h.bl; omega,by have:=h.rl; omega⟩
/-! ### A further body leaves terms what they are -/
theorem no_place:¬ placeOk default:=fun h=>by
 have:=h.1.1.1
 exact absurd this (by decide)
end Go.Proofs.YtgdbhjmpkkbnnaaGreatDoor.Vc
end
section
/- Part TL: new desks. -/
namespace Go.Proofs.YtgdbhjmpkkbnnaaGreatDoor.Vc
open Go.Proofs
set_option maxRecDepth 10000
set_option maxHeartbeats 4000000
theorem placeOk_short {x:Place} (h:placeOk x):x.rules.length≤100000000∧x.bs.length≤100000000:=⟨Nat.le_trans h.2.1.2 (by omega),Nat.le_trans h.1.2.1 (by omega)⟩
theorem drawnP.lenD {x:Place} (h:drawnP x):lenD ⟨x,[]⟩:=⟨h.len,(by decide:0<9223372036854775808),fun _ hb=>by cases hb⟩
end Go.Proofs.YtgdbhjmpkkbnnaaGreatDoor.Vc
end
section
/- Part TN: a deed at a desk, by the reference. -/
namespace Go.Proofs.YtgdbhjmpkkbnnaaGreatDoor.Vc
open Go.Proofs
set_option maxRecDepth 10000
set_option maxHeartbeats 4000000
def deG (d:Desk):AV:=.agg [.int .i64 d.now.p,slI d.now.bs,slS d.now.rules,.row 0 3 0 d.past.length]
def psO (l:List Place):Obj:=.row 3 l.length fun i=>plC (l.getD i default)
def shortD (d:Desk):Prop:=shortP d.now∧d.past.length≤100000∧∀ p∈d.past,shortP p
def C198:GC:=conG (X:=Desk) (fun d=>[enDe d]) (fun _=>[]) shortD fun d K=>K (deG d) [psO d.past]
theorem F198:GG 39 C198:=by
 refine fitG [(70,C158)] (by simp only [List.mem_cons,List.not_mem_nil,or_false]; rintro _ rfl <;> first|exact F158) [] (by simp) Tryz.f39 ⟨rfl,by decide +kernel,by decide +kernel⟩ (by intro x K K2 hk h; (try dsimp only at h ⊢); intros; apply hk; first|exact h|(apply h <;> assumption)) ?_
 rintro ⟨⟨p,bs,rs⟩,l⟩ K ⟨h1,h2,h3⟩ h
 refine ⟨Nat.le_of_ble_eq_true rfl,?_⟩
 unfold deG psO at h
 dsimp only [enDe,deC] at h h1 h2 h3 ⊢
 repeat' (first|refine vz ?_|(conv=>whnf); first|with_reducible first|refine Sp.mk ?_ ?_|refine br_d (fun _=>?_) fun _=>?_|refine vM (fun _=>?_) fun _=>?_)
 refine ⟨⟨p,bs,rs⟩,?_,⟨h1⟩,?_⟩
 ·exact wq
 dsimp only [enPl,plC]
 repeat' (first|refine vz ?_|(conv=>whnf); first|with_reducible first|refine Sp.mk ?_ ?_|refine br_d (fun _=>?_) fun _=>?_|refine vM (fun _=>?_) fun _=>?_)
 refine Lp.mk ⟨Nat,fun i=>[(1,.ptr 0 0),(2,.ptr 1 0),(3,.ptr 2 0),(4,.int .i64 i)],fun i=>[.box (deC ⟨⟨p,bs,rs⟩,l⟩),.box [.int .i64 0,.nils,.nils,.nils],.box [.int .i64 p,slI bs,slS rs,.row 3 3 0 (l.take i).length],psO (l.take i)],fun i=>i≤l.length,fun i=>l.length-i,⟨0,Nat.zero_le _,⟨⟨[some 0,some 1,some 2,none],[],rfl,rfl,?_,?_⟩⟩⟩,?_⟩
 ·exact wq
 ·exact wq
 intro i i1
 dsimp only [deC,psO]
 have hti:(l.take i).length≤100000:=by rw [List.length_take]; omega
 repeat' (first|refine vz ?_|(conv=>whnf); first|with_reducible first|refine Sp.mk ?_ ?_|refine br_d (fun _=>?_) fun _=>?_|refine vM (fun _=>?_) fun _=>?_)
 ·rename_i hi
  have hi:i<l.length:=by omega
  have hsn:l.take (i+1)=l.take i ++ [l.getD i default]:=take_succ' default hi
  refine Dr.mk ⟨(.rd 0 (.rd 1 (.rd 2 (.rd 3 (.rd 4 (.rd 5 (.rd 6 (.ef 7 (.ef 8 (.ef 9 (.rd 10 (.ef 11 .dn .no)) .no) .no) .no)))))))),by decide +kernel,?_⟩
  repeat' (first|refine vz ?_|(conv=>whnf); first|with_reducible first|refine Sp.mk ?_ ?_|refine br_d (fun _=>?_) fun _=>?_|refine vM (fun _=>?_) fun _=>?_)
  refine ⟨l.getD i default,?_,⟨h3 _ (getD_mem' hi)⟩,?_⟩
  ·exact wq
  dsimp only [enPl,plC]
  repeat' (first|refine vz ?_|(conv=>whnf); first|with_reducible first|refine Sp.mk ?_ ?_|refine br_d (fun _=>?_) fun _=>?_|refine vM (fun _=>?_) fun _=>?_)
  refine ⟨i+1,by omega,by omega,⟨⟨[some 0,some 1,some 2,some 5],[],rfl,rfl,?_,?_⟩⟩⟩
  ·exact wq
  ·repeat' ((conv=>whnf); first|with_reducible exact True.intro|exact vW|with_reducible refine And.intro ?_ ?_)
   all_goals first|exact Chk.mk ⟨rfl,by rw [hsn,List.length_append]; rfl⟩|exact Chk.mk (by rw [hsn]; exact ext_push (enc:=plC) (d:=default) (l:=l.take i) (x:=l.getD i default) rfl)
 ·rename_i hi
  rw [List.take_of_length_le (by omega)]
  repeat' (first|refine vz ?_|(conv=>whnf); first|with_reducible first|refine Sp.mk ?_ ?_|refine br_d (fun _=>?_) fun _=>?_|refine vM (fun _=>?_) fun _=>?_)
  refine ⟨_,_,[some 3],[],rfl,rfl,?_,?_,h⟩
  ·exact wq
  ·exact wq
def backD:Dd:=⟨4,0,0,⟨#[]⟩⟩
def pushP (l:List Place) (x:Place):List Place:=if 8<(l ++ [x]).length then (l ++ [x]).drop 1 else l ++ [x]
def doD (d:Desk) (a:Dd):Option Desk :=
 if a=backD∧0<d.past.length then some ⟨d.past.getD (d.past.length-1) default,d.past.take (d.past.length-1)⟩
 else if placeOk (madeP d.now a)∧ptext (madeP d.now a)≠ptext d.now then some ⟨madeP d.now a,pushP d.past d.now⟩ else none
def afterD (d:Desk) (a:Dd):Desk:=if deskOk d then (doD d a).getD d else default
def canD (d:Desk) (a:Dd):Bool:=decide (deskOk d) && (doD d a).isSome
structure De where
 d:Desk
 a:Dd
def C183:List AV→(AV→Prop)→Prop:=con (X:=De) (fun x=>[enDe x.d,ded x.a]) (fun x=>deskI x.d∧dedI x.a) fun x K=>K (.tup [enDe (afterD x.d x.a),.bool (canD x.d x.a)])
theorem deskOk_short {d:Desk} (h:deskOk d):shortD d:=⟨placeOk_short h.1,Nat.le_trans h.2.1 (by decide),fun p hp=>placeOk_short (h.2.2 p hp)⟩
theorem placeI0:placeI default:=⟨⟨⟨⟨by decide,by decide⟩,fun _ hb=>by cases hb⟩,by decide⟩,by decide,fun _ hb=>by cases hb⟩
theorem madeP_I {x:Place} {a:Dd} (h:placeI x) (hs:shortP x) (ha:dedI a):placeI (madeP x a):=by
 obtain ⟨⟨h1,h2⟩,h3,h4⟩:=h
 have s1:=hs.1
 have s2:=hs.2
 have b2:=h1.2
 unfold madeP
 split
 ·refine ⟨⟨⟨h1.1,fun b hb=>(List.mem_append.1 hb).elim (fun hb=>b2 b hb) fun hb=>by rw [List.mem_singleton.1 hb]; exact ha.2.1⟩,?_⟩,h3,h4⟩
  show (x.bs ++ [a.a]).length<_
  simp only [List.length_append,List.length_cons,List.length_nil]
  omega
 ·split
  ·refine ⟨⟨h1,h2⟩,?_,fun r hr=>(List.mem_append.1 hr).elim (fun hr=>h4 r hr) fun hr=>by rw [List.mem_singleton.1 hr]; exact ha.2.2.2⟩
   show (x.rules ++ [a.words]).length<_
   simp only [List.length_append,List.length_cons,List.length_nil]
   omega
  ·split
   ·refine ⟨⟨h1,h2⟩,by show (x.rules.set _ _).length<_; rw [List.length_set]; exact h3,fun r hr=>(List.mem_or_eq_of_mem_set hr).elim (fun hr=>h4 r hr) fun hr=>by rw [hr]; exact ha.2.2.2⟩
   ·split
    ·refine ⟨⟨h1,h2⟩,?_,fun r hr=>(List.mem_append.1 hr).elim (fun hr=>h4 r (List.mem_of_mem_take hr)) fun hr=>h4 r (List.mem_of_mem_drop hr)⟩
     show (x.rules.take _ ++ x.rules.drop _).length<_
     simp only [List.length_append,List.length_take,List.length_drop]
     omega
    ·exact placeI0
theorem ext_take {α:Type} {enc:α→List AV} {d:α} {l:List α} {n:Nat} (hn:n≤l.length):n-Int.toNat 0=(l.take n).length∧∀ i,i<n-Int.toNat 0→enc (l.getD (0+Int.toNat 0+i) d)=enc ((l.take n).getD i d):=by
 refine ⟨by rw [List.length_take]; show n-0=_; omega,fun i hi=>?_⟩
 rw [show 0+Int.toNat 0+i=i by show 0+0+i=i; omega,List.getD_eq_getElem?_getD,List.getD_eq_getElem?_getD,List.getElem?_take_of_lt (by exact hi)]
theorem ext_pushV {α:Type} {enc:α→List AV} {d:α} {l:List α} {x:α} {g:Nat→List AV} (hg:g 0=enc x):l.length+1=(l ++ [x]).length∧∀ i,i<l.length+1→appF l.length (fun i=>enc (l.getD i d)) g (0+i)=enc ((l ++ [x]).getD i d):=by
 have h:=ext_push (enc:=enc) (d:=d) (l:=l) (x:=x) (g:=g) hg
 refine ⟨h.1.symm,fun i hi=>?_⟩
 rw [Nat.zero_add]
 exact (h.2 i (by rw [h.1]; exact hi)).symm
theorem ext_dropV {α:Type} {enc:α→List AV} {d:α} {l:List α} {x:α} {g:Nat→List AV} (hg:g 0=enc x):((l.length+1:Nat):Int).toNat-Int.toNat 1=((l ++ [x]).drop 1).length∧∀ i,i<((l.length+1:Nat):Int).toNat-Int.toNat 1→appF l.length (fun i=>enc (l.getD i d)) g (0+Int.toNat 1+i)=enc (((l ++ [x]).drop 1).getD i d):=by
 have h:=ext_push (enc:=enc) (d:=d) (l:=l) (x:=x) (g:=g) hg
 refine ⟨by rw [List.length_drop,h.1]; rfl,fun i hi=>?_⟩
 have e:((l.length+1:Nat):Int).toNat-Int.toNat 1=l.length:=rfl
 rw [e] at hi
 rw [show 0+Int.toNat 1+i=1+i by rw [Nat.zero_add]; rfl,List.getD_eq_getElem?_getD (l:=(l ++ [x]).drop 1),List.getElem?_drop,← List.getD_eq_getElem?_getD]
 exact (h.2 (1+i) (by rw [h.1]; omega)).symm
theorem afterD_some {d e:Desk} {a:Dd} (h:deskOk d) (he:doD d a=some e):afterD d a=e:=by
 unfold afterD
 rw [if_pos h,he]
 rfl
theorem canD_some {d e:Desk} {a:Dd} (h:deskOk d) (he:doD d a=some e):canD d a=true:=by
 unfold canD
 rw [decide_eq_true h,he]
 rfl
theorem afterD_none {d:Desk} {a:Dd} (h:deskOk d) (he:doD d a=none):afterD d a=d:=by
 unfold afterD
 rw [if_pos h,he]
 rfl
theorem canD_none {d:Desk} {a:Dd} (he:doD d a=none):canD d a=false:=by
 unfold canD
 rw [he]
 simp
theorem F183:FF 23 C183:=by
 refine fitXE [(38,C139),(58,C199),(59,C127),(41,C142)] (by simp only [List.mem_cons,List.not_mem_nil,or_false]; rintro _ (rfl|rfl|rfl|rfl) <;> first|exact F139|exact F199|exact F127|exact F142) [(39,C198)] (by simp only [List.mem_cons,List.not_mem_nil,or_false]; rintro _ rfl; exact F198) Tryz.f23 ⟨rfl,by decide +kernel,by decide +kernel⟩ (fun _ _ _ hk h=>hk _ h) ?_
 rintro ⟨⟨⟨p,bs,rs⟩,l⟩,⟨k,a,b,w⟩⟩ K ⟨hI,ha⟩ h
 refine ⟨Nat.le_of_ble_eq_true rfl,?_⟩
 dsimp only [enDe,deC,ded,encD] at hI ha ⊢
 repeat' (first|refine vz ?_|(conv=>whnf); first|with_reducible first|refine Sp.mk ?_ ?_|refine br_d (fun _=>?_) fun _=>?_|refine vM (fun _=>?_) fun _=>?_)
 refine ⟨⟨⟨p,bs,rs⟩,l⟩,?_,⟨hI⟩,?_⟩
 ·exact wq
 by_cases hO:deskOk ⟨⟨p,bs,rs⟩,l⟩
 ·have hs:=deskOk_short hO
  have hs2:=hs.2.1
  dsimp only at hs2
  repeat' (first|refine vz ?_|(conv=>whnf); first|with_reducible first|refine Sp.mk ?_ ?_|refine br_d (fun _=>?_) fun _=>?_|refine vM (fun _=>?_) fun _=>?_)
  refine ⟨_,_,[],[],rfl,?_,?_,⟨⟨p,bs,rs⟩,l⟩,rfl,rfl,⟨hs⟩,?_⟩
  ·exact wq
  ·exact wq
  dsimp only [deG,psO]
  repeat' ((conv=>whnf); first|with_reducible refine wk_at 9 ?_|with_reducible refine wk_at1 9 ?_|with_reducible refine wk_at2 9 ?_|refine vA ?_|with_reducible first|refine v8 ?_|refine Ch.l ?_|refine Sp.mk ?_ ?_|refine vS ?_|refine vR ?_|refine vB ?_|refine br_nt ?_|refine br_tt ?_|refine br_ff ?_|refine vP ?_|refine vQ ?_|refine vT ?_|refine vF ?_|refine br_and ?_|refine br_or ?_|refine br_d (fun _=>?_) fun _=>?_|refine vM (fun _=>?_) fun _=>?_)
  ·rename_i q1 q2 q3 q4 q5
   have hl:0<l.length:=by omega
   have e0:doD ⟨⟨p,bs,rs⟩,l⟩ ⟨k,a,b,w⟩=some ⟨l.getD (l.length-1) default,l.take (l.length-1)⟩:=if_pos ⟨by subst q1; subst q2; subst q3; subst q4; rfl,hl⟩
   replace h:K (.tup [enDe (afterD ⟨⟨p,bs,rs⟩,l⟩ ⟨k,a,b,w⟩),.bool (canD ⟨⟨p,bs,rs⟩,l⟩ ⟨k,a,b,w⟩)]):=h
   rw [afterD_some hO e0,canD_some hO e0] at h
   have e1:((l.length:Int)-1).toNat=l.length-1:=by omega
   refine ⟨_,?_,h⟩
   rw [e1,Nat.zero_add]
   repeat' ((conv=>whnf); first|with_reducible exact True.intro|exact vW|with_reducible refine And.intro ?_ ?_)
   all_goals exact Chk.mk (ext_take (enc:=plC) (d:=default) (l:=l) (n:=l.length-1) (by omega))
  all_goals
   have hnb:¬ ((⟨k,a,b,w⟩:Dd)=backD∧0<l.length):=by
    rintro ⟨e,e2⟩
    have e3:=congrArg Dd.kind e
    have e4:=congrArg Dd.a e
    have e5:=congrArg Dd.b e
    have e6:=congrArg Dd.words e
    dsimp only [backD] at e3 e4 e5 e6
    first|omega|exact absurd e6 (by assumption)
   refine ⟨Wk.go [(2,.ptr 0 0),(3,.ptr 1 0),(4,.ptr 2 0),(6,.ptr 3 0)] [.box (deC ⟨⟨p,bs,rs⟩,l⟩),.box (encD ⟨k,a,b,w⟩),.box [.int .i64 0,.nils,.nils,.nils],.box [.int .i64 p,slI bs,slS rs,.row 4 3 0 l.length],psO l] ⟨⟨[some 0,some 1,some 2,some 4,some 3],[],rfl,rfl,?_,?_⟩⟩ ?_⟩
   ·exact wq
   ·exact wq
   dsimp only [deC,encD,psO]
   repeat' (first|refine vz ?_|(conv=>whnf); first|with_reducible first|refine Sp.mk ?_ ?_|refine br_d (fun _=>?_) fun _=>?_|refine vM (fun _=>?_) fun _=>?_)
   refine ⟨⟨⟨p,bs,rs⟩,⟨k,a,b,w⟩⟩,?_,⟨hI.1,hs.1,ha⟩,?_⟩
   ·exact wq
   have hMI:=madeP_I (a:=⟨k,a,b,w⟩) hI.1 hs.1 ha
   replace h:K (.tup [enDe (afterD ⟨⟨p,bs,rs⟩,l⟩ ⟨k,a,b,w⟩),.bool (canD ⟨⟨p,bs,rs⟩,l⟩ ⟨k,a,b,w⟩)]):=h
   have eD:doD ⟨⟨p,bs,rs⟩,l⟩ ⟨k,a,b,w⟩=_:=if_neg hnb
   dsimp only at hMI eD ⊢
   generalize madeP ⟨p,bs,rs⟩ ⟨k,a,b,w⟩=M at hMI eD ⊢
   obtain ⟨mp,mb,mr⟩:=M
   dsimp only [enPl,plC]
   repeat' (first|refine vz ?_|(conv=>whnf); first|with_reducible first|refine Sp.mk ?_ ?_|refine br_d (fun _=>?_) fun _=>?_|refine vM (fun _=>?_) fun _=>?_)
   refine Dr.mk ⟨(.rd 0 (.ef 1 (.rd 2 (.rd 3 (.rd 4 (.rd 6 (.rd 7 (.ef 5 (.ef 8 (.rd 9 (.rd 10 .dn)) .no) .no)))))) .no)),by decide +kernel,?_⟩
   repeat' (first|refine vz ?_|(conv=>whnf); first|with_reducible first|refine Sp.mk ?_ ?_|refine br_d (fun _=>?_) fun _=>?_|refine vM (fun _=>?_) fun _=>?_)
   refine ⟨⟨mp,mb,mr⟩,?_,⟨hMI⟩,?_⟩
   ·exact wq
   repeat' (first|refine vz ?_|(conv=>whnf); first|with_reducible first|refine Sp.mk ?_ ?_|refine br_d (fun _=>?_) fun _=>?_|refine vM (fun _=>?_) fun _=>?_)
   ·rename_i hp
    replace hp:placeOk ⟨mp,mb,mr⟩:=hp
    refine ⟨⟨mp,mb,mr⟩,?_,⟨hMI⟩,?_⟩
    ·exact wq
    repeat' (first|refine vz ?_|(conv=>whnf); first|with_reducible first|refine Sp.mk ?_ ?_|refine br_d (fun _=>?_) fun _=>?_|refine vM (fun _=>?_) fun _=>?_)
    refine ⟨⟨p,bs,rs⟩,?_,⟨hI.1⟩,?_⟩
    ·exact wq
    by_cases he:ptext ⟨mp,mb,mr⟩=ptext ⟨p,bs,rs⟩
    ·replace eD:doD ⟨⟨p,bs,rs⟩,l⟩ ⟨k,a,b,w⟩=none:=eD.trans (if_neg fun q=>q.2 he)
     rw [afterD_none hO eD,canD_none eD] at h
     repeat' (first|refine vz ?_|(conv=>whnf); first|with_reducible first|refine Sp.mk ?_ ?_|refine br_d (fun _=>?_) fun _=>?_|refine vM (fun _=>?_) fun _=>?_)
     refine ⟨_,?_,h⟩
     repeat' ((conv=>whnf); first|with_reducible exact True.intro|exact vW|with_reducible refine And.intro ?_ ?_)
     all_goals exact Chk.mk ⟨rfl,fun i _=>by dsimp only; rw [Nat.zero_add]; rfl⟩
    ·replace eD:doD ⟨⟨p,bs,rs⟩,l⟩ ⟨k,a,b,w⟩=some ⟨⟨mp,mb,mr⟩,pushP l ⟨p,bs,rs⟩⟩:=eD.trans (if_pos ⟨hp,he⟩)
     rw [afterD_some hO eD,canD_some hO eD] at h
     by_cases h8:8<(l ++ [(⟨p,bs,rs⟩:Place)]).length
     ·rw [show pushP l ⟨p,bs,rs⟩=(l ++ [(⟨p,bs,rs⟩:Place)]).drop 1 from if_pos h8] at h
      simp only [List.length_append,List.length_cons,List.length_nil] at h8
      repeat' (first|refine vz ?_|(conv=>whnf); first|with_reducible first|refine Sp.mk ?_ ?_|refine br_d (fun _=>?_) fun _=>?_|refine vM (fun _=>?_) fun _=>?_)
      first
      |refine ⟨_,?_,h⟩
      |refine ⟨Chk.mk ⟨⟨by show 0+1+(l.length+1-1)≤l.length+1; omega,trivial⟩,trivial⟩,_,?_,h⟩
      repeat' ((conv=>whnf); first|with_reducible exact True.intro|exact vW|with_reducible refine And.intro ?_ ?_)
      all_goals exact Chk.mk (ext_dropV (enc:=plC) (d:=default) (l:=l) (x:=⟨p,bs,rs⟩) rfl)
     ·rw [show pushP l ⟨p,bs,rs⟩=l ++ [(⟨p,bs,rs⟩:Place)] from if_neg h8] at h
      simp only [List.length_append,List.length_cons,List.length_nil] at h8
      repeat' (first|refine vz ?_|(conv=>whnf); first|with_reducible first|refine Sp.mk ?_ ?_|refine br_d (fun _=>?_) fun _=>?_|refine vM (fun _=>?_) fun _=>?_)
      refine ⟨_,?_,h⟩
      repeat' ((conv=>whnf); first|with_reducible exact True.intro|exact vW|with_reducible refine And.intro ?_ ?_)
      all_goals exact Chk.mk (ext_pushV (enc:=plC) (d:=default) (l:=l) (x:=⟨p,bs,rs⟩) rfl)
   ·rename_i hp
    replace hp:¬ placeOk ⟨mp,mb,mr⟩:=hp
    replace eD:doD ⟨⟨p,bs,rs⟩,l⟩ ⟨k,a,b,w⟩=none:=eD.trans (if_neg fun q=>hp q.1)
    rw [afterD_none hO eD,canD_none eD] at h
    refine ⟨_,?_,h⟩
    repeat' ((conv=>whnf); first|with_reducible exact True.intro|exact vW|with_reducible refine And.intro ?_ ?_)
    all_goals exact Chk.mk ⟨rfl,fun i _=>by dsimp only; rw [Nat.zero_add]; rfl⟩
 ·replace h:K (.tup [enDe (afterD ⟨⟨p,bs,rs⟩,l⟩ ⟨k,a,b,w⟩),.bool (canD ⟨⟨p,bs,rs⟩,l⟩ ⟨k,a,b,w⟩)]):=h
  rw [show afterD ⟨⟨p,bs,rs⟩,l⟩ ⟨k,a,b,w⟩=default from if_neg hO,show canD ⟨⟨p,bs,rs⟩,l⟩ ⟨k,a,b,w⟩=false by unfold canD; rw [decide_eq_false hO]; rfl] at h
  repeat' (first|refine vz ?_|(conv=>whnf); first|with_reducible first|refine Sp.mk ?_ ?_|refine br_d (fun _=>?_) fun _=>?_|refine vM (fun _=>?_) fun _=>?_)
  refine ⟨_,?_,h⟩
  repeat' ((conv=>whnf); first|with_reducible exact True.intro|exact vW|with_reducible refine And.intro ?_ ?_)
end Go.Proofs.YtgdbhjmpkkbnnaaGreatDoor.Vc
end
section
/- Part EH: results that are told anew by what they mean. -/
namespace Go.Proofs.YtgdbhjmpkkbnnaaGreatDoor.Vc
open Go.Proofs
set_option maxRecDepth 10000
end Go.Proofs.YtgdbhjmpkkbnnaaGreatDoor.Vc
end
section
/- Part NA: desks whose past owns its places' rows: copies. -/
namespace Go.Proofs.YtgdbhjmpkkbnnaaGreatDoor.Vc
open Go.Proofs
set_option maxRecDepth 10000
set_option maxHeartbeats 4000000
def npO (l:List Place):Obj:=.nrow 3 l.length (fun i=>plC (l.getD i default)) none
def deN (d:Desk):AV:=.agg [.int .i64 d.now.p,.row 0 1 0 d.now.bs.length,.row 1 1 0 d.now.rules.length,.row 2 3 0 d.past.length]
def deO (d:Desk):List Obj:=[.row 1 d.now.bs.length fun i=>encI (d.now.bs.getD i 0),.row 1 d.now.rules.length fun i=>encS (d.now.rules.getD i ⟨#[]⟩),npO d.past]
def C261n:GC:=conG (X:=Desk) (fun d=>[enDe d]) (fun _=>[]) shortD fun d K=>K (deN d) (deO d)
theorem F261n:GG 56 C261n:=by
 refine fitG [] (by simp) [(99,C157g)] (by simp only [List.mem_cons,List.not_mem_nil,or_false]; rintro _ rfl <;> first|exact F157g) Tryz.f56 ⟨rfl,by decide +kernel,by decide +kernel⟩ (by intro x K K2 hk h; (try dsimp only at h ⊢); intros; apply hk; first|exact h|(apply h <;> assumption)) ?_
 rintro ⟨⟨p,bs,rs⟩,l⟩ K ⟨h1,h2,h3⟩ h
 refine ⟨Nat.le_of_ble_eq_true rfl,?_⟩
 unfold deN deO npO at h
 dsimp only [enDe,deC] at h h1 h2 h3 ⊢
 repeat' (first|refine vz ?_|(conv=>whnf); first|with_reducible first|refine Sp.mk ?_ ?_|refine br_d (fun _=>?_) fun _=>?_|refine vM (fun _=>?_) fun _=>?_)
 refine ⟨_,_,[],[],rfl,?_,?_,⟨p,bs,rs⟩,rfl,rfl,⟨h1⟩,?_⟩
 ·exact wq
 ·exact wq
 dsimp only [plG,plO]
 repeat' (first|refine vz ?_|(conv=>whnf); first|with_reducible first|refine Sp.mk ?_ ?_|refine br_d (fun _=>?_) fun _=>?_|refine vM (fun _=>?_) fun _=>?_)
 refine Lp.mk ⟨Nat,fun i=>[(1,.ptr 0 0),(2,.ptr 1 0),(3,.ptr 4 0),(11,slP l),(12,.int .i64 l.length),(13,.int .i64 i)],fun i=>[.box (deC ⟨⟨p,bs,rs⟩,l⟩),.box [.int .i64 0,.nils,.nils,.nils],.row 1 bs.length fun i=>encI (bs.getD i 0),.row 1 rs.length fun i=>encS (rs.getD i ⟨#[]⟩),.box [.int .i64 p,.row 2 1 0 bs.length,.row 3 1 0 rs.length,.row 5 3 0 (l.take i).length],npO (l.take i)],fun i=>i≤l.length,fun i=>l.length-i,⟨0,Nat.zero_le _,⟨⟨[some 0,some 1,some 2,some 3,some 4,none],[],rfl,rfl,?_,?_⟩⟩⟩,?_⟩
 ·exact wq
 ·exact wq
 intro i i1
 dsimp only [deC,npO]
 have hti:(l.take i).length≤100000:=by rw [List.length_take]; omega
 repeat' (first|refine vz ?_|(conv=>whnf); first|with_reducible first|refine Sp.mk ?_ ?_|refine br_d (fun _=>?_) fun _=>?_|refine vM (fun _=>?_) fun _=>?_)
 ·rename_i hi
  have hi:i<l.length:=by omega
  have hsn:l.take (i+1)=l.take i ++ [l.getD i default]:=take_succ' default hi
  refine Dr.mk ⟨(.rd 0 (.rd 1 (.rd 2 (.ef 3 (.ef 4 (.ef 5 (.rd 6 (.ef 7 .dn .no)) .no) .no) .no)))),by decide +kernel,?_⟩
  repeat' (first|refine vz ?_|(conv=>whnf); first|with_reducible first|refine Sp.mk ?_ ?_|refine br_d (fun _=>?_) fun _=>?_|refine vM (fun _=>?_) fun _=>?_)
  all_goals
   refine ⟨_,_,[],[],rfl,?_,?_,l.getD i default,rfl,rfl,⟨h3 _ (getD_mem' hi)⟩,?_⟩
   ·exact wq
   ·exact wq
   dsimp only [plG,plO]
   repeat' ((conv=>whnf); first|refine Ch.r ?_|refine vA ?_|with_reducible first|refine v8 ?_|refine Ch.l ?_|refine Sp.mk ?_ ?_|refine vS ?_|refine vR ?_|refine vB ?_|refine br_nt ?_|refine br_tt ?_|refine br_ff ?_|refine vP ?_|refine vQ ?_|refine vT ?_|refine vF ?_|refine br_and ?_|refine br_or ?_|refine br_d (fun _=>?_) fun _=>?_|refine vM (fun _=>?_) fun _=>?_)
  all_goals
   refine ⟨i+1,by omega,by omega,?_⟩
   first|(refine ⟨⟨[some 0,some 1,some 2,some 3,some 4,some 10],[],rfl,rfl,?_,?_⟩⟩ <;> (repeat' ((conv=>whnf); first|with_reducible exact True.intro|exact vW|with_reducible refine And.intro ?_ ?_|exact Chk.mk ⟨rfl,by rw [hsn,List.length_append]; rfl⟩|exact Chk.mk (by rw [hsn]; exact ext_push (enc:=plC) (d:=default) (l:=l.take i) (x:=l.getD i default) rfl))) <;> fail)|(refine ⟨⟨[some 0,some 1,some 2,some 3,some 4,some 9],[],rfl,rfl,?_,?_⟩⟩ <;> (repeat' ((conv=>whnf); first|with_reducible exact True.intro|exact vW|with_reducible refine And.intro ?_ ?_|exact Chk.mk ⟨rfl,by rw [hsn,List.length_append]; rfl⟩|exact Chk.mk (by rw [hsn]; exact ext_push (enc:=plC) (d:=default) (l:=l.take i) (x:=l.getD i default) rfl))) <;> fail)|(refine ⟨⟨[some 0,some 1,some 2,some 3,some 4,some 11],[],rfl,rfl,?_,?_⟩⟩ <;> (repeat' ((conv=>whnf); first|with_reducible exact True.intro|exact vW|with_reducible refine And.intro ?_ ?_|exact Chk.mk ⟨rfl,by rw [hsn,List.length_append]; rfl⟩|exact Chk.mk (by rw [hsn]; exact ext_push (enc:=plC) (d:=default) (l:=l.take i) (x:=l.getD i default) rfl))) <;> fail)
 ·rename_i hi
  rw [List.take_of_length_le (by omega)]
  repeat' (first|refine vz ?_|(conv=>whnf); first|with_reducible first|refine Sp.mk ?_ ?_|refine br_d (fun _=>?_) fun _=>?_|refine vM (fun _=>?_) fun _=>?_)
  refine ⟨_,_,[some 2,some 3,some 5],[],rfl,rfl,?_,?_,h⟩
  ·exact wq
  ·exact wq
theorem orG {P:Program} {Gl:List (Nat × Go.Obj)} {f:FuncId} {C D:GC} (h:FitsG P Gl f C) (k:FitsG P Gl f D):FitsG P Gl f (fun us og K=>C us og K∨D us og K) :=
 ⟨h.has,fun us og K K' hk q=>q.imp (h.mono us og K K' hk) (k.mono us og K K' hk),fun us og K q=>q.elim (h.ok us og K) (k.ok us og K)⟩
end Go.Proofs.YtgdbhjmpkkbnnaaGreatDoor.Vc
end
section
/- Part TS: inputs copied into memory of one's own. -/
namespace Go.Proofs.YtgdbhjmpkkbnnaaGreatDoor.Vc
open Go.Proofs
set_option maxRecDepth 10000
set_option maxHeartbeats 4000000
def C14g:GC:=conG (X:=List Int) (fun l=>[slI l]) (fun _=>[]) (fun l=>l.length≤1048576) fun l K=>K (.row 0 1 0 l.length) [.row 1 l.length fun i=>encI (l.getD i 0)]
theorem F14g:GG 117 C14g:=by
 refine fitG [] (by simp) [] (by simp) Tryz.f117 ⟨rfl,by decide +kernel,by decide +kernel⟩ (by intro x K K2 hk h; (try dsimp only at h ⊢); intros; apply hk; first|exact h|(apply h <;> assumption)) ?_
 rintro l K h1 h
 refine ⟨Nat.le_of_ble_eq_true rfl,?_⟩
 repeat' ((conv=>whnf); first|((with_reducible refine And.intro (Chk.mk ?_) ?_); (focus (refine ⟨rfl,?_,?_,?_⟩; (focus omega); (focus omega); (focus (show (8:Int)*_≤_; omega)))))|refine vA ?_|with_reducible first|refine v8 ?_|refine Ch.l ?_|refine Sp.mk ?_ ?_|refine vS ?_|refine vR ?_|refine vB ?_|refine br_nt ?_|refine br_tt ?_|refine br_ff ?_|refine vP ?_|refine vQ ?_|refine vT ?_|refine vF ?_|refine br_and ?_|refine br_or ?_|refine br_d (fun _=>?_) fun _=>?_|refine vM (fun _=>?_) fun _=>?_)
 refine Lp.mk ⟨Nat,fun i=>[(0,slI l),(2,.nils),(3,.row 0 1 0 l.length),(4,.int .i64 i)],fun i=>[.row 1 l.length (cpG encI 0 [.int .i64 0] l i)],fun i=>i≤l.length,fun i=>l.length-i,⟨0,Nat.zero_le _,⟨⟨[some 0],[],rfl,rfl,?_,?_⟩⟩⟩,?_⟩
 ·exact wq
 ·exact wq
 intro i i1
 dsimp only
 repeat' (first|refine vz ?_|(conv=>whnf); first|with_reducible first|refine Sp.mk ?_ ?_|refine br_d (fun _=>?_) fun _=>?_|refine vM (fun _=>?_) fun _=>?_)
 ·refine ⟨i+1,by omega,by omega,⟨⟨[some 0],[],rfl,rfl,?_,?_⟩⟩⟩
  ·exact wq
  ·repeat' ((conv=>whnf); first|with_reducible exact True.intro|exact vW|with_reducible refine And.intro ?_ ?_)
   exact Chk.mk ⟨rfl,fun j _=>by rw [cpG_step,Nat.zero_add,Int.toNat_natCast,cpG_at]; rfl⟩
 ·have he:=cpG_end (enc:=encI) (d:=0) (z:=[.int .i64 0]) (l:=l) (i:=i) (by omega)
  refine ⟨_,_,[some 0],[],rfl,rfl,?_,?_,h⟩
  ·exact wq
  ·repeat' ((conv=>whnf); first|with_reducible exact True.intro|exact vW|with_reducible refine And.intro ?_ ?_)
   all_goals exact Chk.mk ⟨rfl,fun j hj=>by have:=he j hj; rw [Nat.zero_add] at this; exact this.symm⟩
def C155g:GC:=conG (X:=List ByteArray) (fun l=>[slS l]) (fun _=>[]) (fun l=>l.length≤1048576) fun l K=>K (.row 0 1 0 l.length) [.row 1 l.length fun i=>encS (l.getD i ⟨#[]⟩)]
theorem F155g:GG 17 C155g:=by
 refine fitG [] (by simp) [] (by simp) Tryz.f17 ⟨rfl,by decide +kernel,by decide +kernel⟩ (by intro x K K2 hk h; (try dsimp only at h ⊢); intros; apply hk; first|exact h|(apply h <;> assumption)) ?_
 rintro l K h1 h
 refine ⟨Nat.le_of_ble_eq_true rfl,?_⟩
 repeat' ((conv=>whnf); first|((with_reducible refine And.intro (Chk.mk ?_) ?_); (focus (refine ⟨rfl,?_,?_,?_⟩; (focus omega); (focus omega); (focus (show (16:Int)*_≤_; omega)))))|refine vA ?_|with_reducible first|refine v8 ?_|refine Ch.l ?_|refine Sp.mk ?_ ?_|refine vS ?_|refine vR ?_|refine vB ?_|refine br_nt ?_|refine br_tt ?_|refine br_ff ?_|refine vP ?_|refine vQ ?_|refine vT ?_|refine vF ?_|refine br_and ?_|refine br_or ?_|refine br_d (fun _=>?_) fun _=>?_|refine vM (fun _=>?_) fun _=>?_)
 refine Lp.mk ⟨Nat,fun i=>[(0,slS l),(3,.row 0 1 0 l.length),(4,.int .i64 i)],fun i=>[.row 1 l.length (cpG encS ⟨#[]⟩ [.str ⟨#[]⟩] l i)],fun i=>i≤l.length,fun i=>l.length-i,⟨0,Nat.zero_le _,⟨⟨[some 0],[],rfl,rfl,?_,?_⟩⟩⟩,?_⟩
 ·exact wq
 ·exact wq
 intro i i1
 dsimp only
 repeat' (first|refine vz ?_|(conv=>whnf); first|with_reducible first|refine Sp.mk ?_ ?_|refine br_d (fun _=>?_) fun _=>?_|refine vM (fun _=>?_) fun _=>?_)
 ·refine ⟨i+1,by omega,by omega,⟨⟨[some 0],[],rfl,rfl,?_,?_⟩⟩⟩
  ·exact wq
  ·repeat' ((conv=>whnf); first|with_reducible exact True.intro|exact vW|with_reducible refine And.intro ?_ ?_)
   exact Chk.mk ⟨rfl,fun j _=>by rw [cpG_step,Nat.zero_add,Int.toNat_natCast,cpG_at]; rfl⟩
 ·have he:=cpG_end (enc:=encS) (d:=⟨#[]⟩) (z:=[.str ⟨#[]⟩]) (l:=l) (i:=i) (by omega)
  refine ⟨_,_,[some 0],[],rfl,rfl,?_,?_,h⟩
  ·exact wq
  ·repeat' ((conv=>whnf); first|with_reducible exact True.intro|exact vW|with_reducible refine And.intro ?_ ?_)
   all_goals exact Chk.mk ⟨rfl,fun j hj=>by have:=he j hj; rw [Nat.zero_add] at this; exact this.symm⟩
def C12g:GC:=conG (X:=House) (fun h=>[enH h]) (fun _=>[]) (fun h=>h.bs.length≤1048576) fun h K=>K (.agg [.int .i64 h.p,.row 0 1 0 h.bs.length]) [.row 1 h.bs.length fun i=>encI (h.bs.getD i 0)]
theorem F12g:GG 88 C12g:=by
 refine fitG [] (by simp) [(117,C14g)] (by simp only [List.mem_cons,List.not_mem_nil,or_false]; rintro _ rfl <;> first|exact F14g) Tryz.f88 ⟨rfl,by decide +kernel,by decide +kernel⟩ (by intro x K K2 hk h; (try dsimp only at h ⊢); intros; apply hk; first|exact h|(apply h <;> assumption)) ?_
 rintro ⟨p,bs⟩ K h1 h
 refine ⟨Nat.le_of_ble_eq_true rfl,?_⟩
 dsimp only at h1 h ⊢
 repeat' (first|refine vz ?_|(conv=>whnf); first|with_reducible first|refine Sp.mk ?_ ?_|refine br_d (fun _=>?_) fun _=>?_|refine vM (fun _=>?_) fun _=>?_)
 refine ⟨_,_,[],[],rfl,?_,?_,bs,rfl,rfl,⟨h1⟩,?_⟩
 ·exact wq
 ·exact wq
 dsimp only
 repeat' (first|refine vz ?_|(conv=>whnf); first|with_reducible first|refine Sp.mk ?_ ?_|refine br_d (fun _=>?_) fun _=>?_|refine vM (fun _=>?_) fun _=>?_)
 refine ⟨_,_,[some 3],[],rfl,rfl,?_,?_,h⟩
 ·exact wq
 ·exact wq
def C129g:GC:=conG (X:=Place) (fun x=>[enPl x]) (fun _=>[]) okPl fun x K=>K (plG x) (plO x)
theorem F129g:GG 46 C129g:=by
 refine fitG [] (by simp) [(88,C12g),(17,C155g)] (by simp only [List.mem_cons,List.not_mem_nil,or_false]; rintro _ (rfl|rfl) <;> first|exact F12g|exact F155g) Tryz.f46 ⟨rfl,by decide +kernel,by decide +kernel⟩ (by intro x K K2 hk h; (try dsimp only at h ⊢); intros; apply hk; first|exact h|(apply h <;> assumption)) ?_
 rintro ⟨p,bs,rs⟩ K ⟨h1,h2⟩ h
 refine ⟨Nat.le_of_ble_eq_true rfl,?_⟩
 unfold plG plO at h
 dsimp only [enPl,plC] at h1 h2 h ⊢
 repeat' (first|refine vz ?_|(conv=>whnf); first|with_reducible first|refine Sp.mk ?_ ?_|refine br_d (fun _=>?_) fun _=>?_|refine vM (fun _=>?_) fun _=>?_)
 refine ⟨_,_,[],[],rfl,?_,?_,⟨p,bs⟩,rfl,rfl,⟨h1⟩,?_⟩
 ·exact wq
 ·exact wq
 dsimp only
 repeat' (first|refine vz ?_|(conv=>whnf); first|with_reducible first|refine Sp.mk ?_ ?_|refine br_d (fun _=>?_) fun _=>?_|refine vM (fun _=>?_) fun _=>?_)
 refine ⟨_,_,[],[],rfl,?_,?_,rs,rfl,rfl,⟨h2⟩,?_⟩
 ·exact wq
 ·exact wq
 dsimp only
 repeat' (first|refine vz ?_|(conv=>whnf); first|with_reducible first|refine Sp.mk ?_ ?_|refine br_d (fun _=>?_) fun _=>?_|refine vM (fun _=>?_) fun _=>?_)
 refine ⟨_,_,[some 3,some 4],[],rfl,rfl,?_,?_,h⟩
 ·exact wq
 ·exact wq
/-! ### Copies of places whose memory is ours -/
/-! ### New desks over places whose memory is ours -/
end Go.Proofs.YtgdbhjmpkkbnnaaGreatDoor.Vc
end
section
/- Part NG: desks as inputs, with nested memory of their own. -/
namespace Go.Proofs.YtgdbhjmpkkbnnaaGreatDoor.Vc
open Go.Proofs
set_option maxRecDepth 10000
set_option maxHeartbeats 4000000
theorem plain3:∀ v,v∈[AV.int .i64 0,.nils,.nils]→v.plain=true:=by
 intro v hv
 simp only [List.mem_cons,List.not_mem_nil,or_false] at hv
 rcases hv with rfl|rfl|rfl <;> rfl
def C163n:GC:=conG (X:=List Place) (fun l=>[slP l]) (fun _=>[]) okPs fun l K=>K (.row 0 3 0 l.length) [npO l]
theorem F163n:GG 47 C163n:=by
 refine fitG [] (by simp) [(46,C129g)] (by simp only [List.mem_cons,List.not_mem_nil,or_false]; rintro _ rfl <;> first|exact F129g) Tryz.f47 ⟨rfl,by decide +kernel,by decide +kernel⟩ (by intro x K K2 hk h; (try dsimp only at h ⊢); intros; apply hk; first|exact h|(apply h <;> assumption)) ?_
 rintro l K ⟨h1,h2⟩ h
 refine ⟨Nat.le_of_ble_eq_true rfl,?_⟩
 unfold npO at h
 repeat' ((conv=>whnf); first|((with_reducible refine And.intro (Chk.mk ?_) ?_); (focus (refine ⟨rfl,?_,?_,?_⟩; (focus omega); (focus omega); (focus (show (56:Int)*_≤_; omega)))))|with_reducible refine wk_at 2 ?_|with_reducible refine wk_at1 2 ?_|with_reducible refine wk_at2 2 ?_|refine vA ?_|with_reducible first|refine v8 ?_|refine Ch.l ?_|refine Sp.mk ?_ ?_|refine vS ?_|refine vR ?_|refine vB ?_|refine br_nt ?_|refine br_tt ?_|refine br_ff ?_|refine vP ?_|refine vQ ?_|refine vT ?_|refine vF ?_|refine br_and ?_|refine br_or ?_|refine br_d (fun _=>?_) fun _=>?_|refine vM (fun _=>?_) fun _=>?_)
 refine ⟨Wk.mv _ (.cons _ _ _ (.nr 0 3 _ _ rfl (Nat.zero_le _) (fun _ _ v hv=>plain3 v hv) (by conv=>whnf)) (.nil _)) ?_⟩
 repeat' (first|refine vz ?_|(conv=>whnf); first|with_reducible first|refine Sp.mk ?_ ?_|refine br_d (fun _=>?_) fun _=>?_|refine vM (fun _=>?_) fun _=>?_)
 refine Lp.mk ⟨Nat,fun i=>[(0,slP l),(3,.row 0 3 0 l.length),(4,.int .i64 i)],fun i=>[.nrow 3 l.length (cpG plC default [.int .i64 0,.nils,.nils] l i) none],fun i=>i≤l.length,fun i=>l.length-i,⟨0,Nat.zero_le _,⟨⟨[some 0],[],rfl,rfl,?_,?_⟩⟩⟩,?_⟩
 ·exact wq
 ·exact wq
 intro i i1
 dsimp only
 repeat' (first|refine vz ?_|(conv=>whnf); first|with_reducible first|refine Sp.mk ?_ ?_|refine br_d (fun _=>?_) fun _=>?_|refine vM (fun _=>?_) fun _=>?_)
 ·rename_i hi
  have hi:i<l.length:=by omega
  refine ⟨_,_,[],[],rfl,?_,?_,l.getD i default,rfl,rfl,⟨h2 _ (getD_mem' hi)⟩,?_⟩
  ·exact wq
  ·exact wq
  dsimp only [plG,plO]
  repeat' ((conv=>whnf); first|(refine And.intro (Chk.mk ⟨by omega,rfl,rfl,trivial⟩) ?_)|refine vA ?_|with_reducible first|refine v8 ?_|refine Ch.l ?_|refine Sp.mk ?_ ?_|refine vS ?_|refine vR ?_|refine vB ?_|refine br_nt ?_|refine br_tt ?_|refine br_ff ?_|refine vP ?_|refine vQ ?_|refine vT ?_|refine vF ?_|refine br_and ?_|refine br_or ?_|refine br_d (fun _=>?_) fun _=>?_|refine vM (fun _=>?_) fun _=>?_)
  refine ⟨i+1,by omega,by omega,⟨⟨[some 0],[],rfl,rfl,?_,?_⟩⟩⟩
  ·exact wq
  ·repeat' ((conv=>whnf); first|with_reducible exact True.intro|exact vW|with_reducible refine And.intro ?_ ?_)
   exact Chk.mk ⟨rfl,fun j _=>by rw [cpG_step,Nat.zero_add,Int.toNat_natCast,cpG_at]; rfl⟩
 ·have he:=cpG_end (enc:=plC) (d:=default) (z:=[.int .i64 0,.nils,.nils]) (l:=l) (i:=i) (by omega)
  refine ⟨_,_,[some 0],[],rfl,rfl,?_,?_,h⟩
  ·exact wq
  ·repeat' ((conv=>whnf); first|with_reducible exact True.intro|exact vW|with_reducible refine And.intro ?_ ?_)
   all_goals exact Chk.mk ⟨rfl,fun j hj=>by have:=he j hj; rw [Nat.zero_add] at this; exact this.symm⟩
def C140n:GC:=conG (X:=Desk) (fun x=>[enDe x]) (fun _=>[]) okDe fun x K=>K (deN x) (deO x)
theorem F140n:GG 10 C140n:=by
 refine fitG [] (by simp) [(46,C129g),(47,C163n)] (by simp only [List.mem_cons,List.not_mem_nil,or_false]; rintro _ (rfl|rfl) <;> first|exact F129g|exact F163n) Tryz.f10 ⟨rfl,by decide +kernel,by decide +kernel⟩ (by intro x K K2 hk h; (try dsimp only at h ⊢); intros; apply hk; first|exact h|(apply h <;> assumption)) ?_
 rintro ⟨⟨p,bs,rs⟩,l⟩ K ⟨h1,h2⟩ h
 refine ⟨Nat.le_of_ble_eq_true rfl,?_⟩
 unfold deN deO at h
 dsimp only [enDe,deC] at h1 h2 h ⊢
 repeat' (first|refine vz ?_|(conv=>whnf); first|with_reducible first|refine Sp.mk ?_ ?_|refine br_d (fun _=>?_) fun _=>?_|refine vM (fun _=>?_) fun _=>?_)
 refine ⟨_,_,[],[],rfl,?_,?_,⟨p,bs,rs⟩,rfl,rfl,⟨h1⟩,?_⟩
 ·exact wq
 ·exact wq
 dsimp only [plG,plO]
 repeat' (first|refine vz ?_|(conv=>whnf); first|with_reducible first|refine Sp.mk ?_ ?_|refine br_d (fun _=>?_) fun _=>?_|refine vM (fun _=>?_) fun _=>?_)
 refine ⟨_,_,[],[],rfl,?_,?_,l,rfl,rfl,⟨h2⟩,?_⟩
 ·exact wq
 ·exact wq
 dsimp only [npO] at h ⊢
 repeat' (first|refine vz ?_|(conv=>whnf); first|with_reducible first|refine Sp.mk ?_ ?_|refine br_d (fun _=>?_) fun _=>?_|refine vM (fun _=>?_) fun _=>?_)
 refine ⟨_,_,[some 3,some 4,some 5],[],rfl,rfl,?_,?_,h⟩
 ·exact wq
 ·exact wq
end Go.Proofs.YtgdbhjmpkkbnnaaGreatDoor.Vc
end
section
/- Part UM: marks in memory of one's own. -/
namespace Go.Proofs.YtgdbhjmpkkbnnaaGreatDoor.Vc
open Go.Proofs
set_option maxRecDepth 10000
set_option maxHeartbeats 4000000
def digT:Nat→Nat→ByteArray→ByteArray
 |0,_,acc=>acc
 |k+1,n,acc=>if n=0 then acc else digT k (n / 10) (⟨#[UInt8.ofNat (48+n % 10)]⟩ ++ acc)
def mkT (n:Int):ByteArray:=if n≤0 then ⟨#[109,48]⟩ else ⟨#[109]⟩ ++ digT 40 n.toNat ⟨#[]⟩
def mksI (n:Int) (k:Nat):List Int:=(List.range k).map fun (i:Nat)=>n+(i:Int)
def mksS (n:Int) (k:Nat):List ByteArray:=(List.range k).map fun (i:Nat)=>mkT (n+(i:Int))
theorem mksI_len (n:Int) (k:Nat):(mksI n k).length=k:=by simp [mksI]
theorem mksS_len (n:Int) (k:Nat):(mksS n k).length=k:=by simp [mksS]
theorem mksI_get {n:Int} {k i:Nat} (h:i<k):(mksI n k).getD i 0=n+(i:Int):=by
 unfold mksI
 rw [List.getD_eq_getElem?_getD,List.getElem?_map,List.getElem?_range h]
 rfl
theorem mksS_get {n:Int} {k i:Nat} (h:i<k):(mksS n k).getD i ⟨#[]⟩=mkT (n+(i:Int)):=by
 unfold mksS
 rw [List.getD_eq_getElem?_getD,List.getElem?_map,List.getElem?_range h]
 rfl
structure Mk where
 l:List Int
 n:Int
def mixF (i:Nat) (f g:Nat→List AV):Nat→List AV:=fun j=>cond (Nat.blt j i) (f j) (g j)
theorem mix_at {i:Nat} {f g:Nat→List AV}:mixF i f g i=g i:=by
 have:Nat.blt i i=false:=by
  cases h:Nat.blt i i with
  |false=>rfl
  |true=>exact absurd (Nat.le_of_ble_eq_true h) (Nat.not_succ_le_self _)
 unfold mixF
 rw [this]
 rfl
theorem mix_set {i:Nat} {f g:Nat→List AV} {v:List AV} (hv:v=f i) (j:Nat):mixF (i+1) f g j=setF (mixF i f g) i v j:=by
 unfold setF mixF
 rcases Nat.lt_trichotomy j i with h|rfl|h
 ·have h1:Nat.blt j (i+1)=true:=Nat.ble_eq_true_of_le (by omega)
  have h2:Nat.blt j i=true:=Nat.ble_eq_true_of_le h
  have h3:Nat.beq j i=false:=by cases e:Nat.beq j i with|false=>rfl|true=>have:=Nat.eq_of_beq_eq_true e; omega
  rw [h1,h2,h3]
  rfl
 ·have h1:Nat.blt j (j+1)=true:=Nat.ble_eq_true_of_le (Nat.le_refl _)
  have h3:Nat.beq j j=true:=Nat.beq_refl j
  rw [h1,h3,hv]
  rfl
 ·have h1:Nat.blt j (i+1)=false:=by cases e:Nat.blt j (i+1) with|false=>rfl|true=>have:=Nat.le_of_ble_eq_true e; omega
  have h2:Nat.blt j i=false:=by cases e:Nat.blt j i with|false=>rfl|true=>have:=Nat.le_of_ble_eq_true e; omega
  have h3:Nat.beq j i=false:=by cases e:Nat.beq j i with|false=>rfl|true=>have:=Nat.eq_of_beq_eq_true e; omega
  rw [h1,h2,h3]
  rfl
theorem mix_lt {i j:Nat} {f g:Nat→List AV} (h:j<i):mixF i f g j=f j:=by
 unfold mixF
 rw [show Nat.blt j i=true from Nat.ble_eq_true_of_le h]
 rfl
theorem mix_step {i N:Nat} {f g:Nat→List AV} {v:AV} (hv:setCells (g i) 0 [v]=f i):N=N∧∀ j,j<N→mixF (i+1) f g j=setF (mixF i f g) (0+i) (setCells (mixF i f g (0+i)) 0 [v]) j:=⟨rfl,fun j _=>by rw [Nat.zero_add,mix_at,hv]; exact mix_set rfl j⟩
def C185:GC:=conG (X:=Mk) (fun x=>[.row 0 1 0 x.l.length,.int .i64 x.n]) (fun x=>[.row 1 x.l.length fun i=>encI (x.l.getD i 0)]) (fun x=>0≤x.n∧x.n≤1000000000000000∧x.l.length≤1000000000000000) fun x K=>K (.int .i64 (x.n+x.l.length)) [.row 1 x.l.length fun i=>encI ((mksI x.n x.l.length).getD i 0)]
theorem F185:GG 96 C185:=by
 refine fitG [] (by simp) [] (by simp) Tryz.f96 ⟨rfl,by decide +kernel,by decide +kernel⟩ (by intro x K K2 hk h; (try dsimp only at h ⊢); intros; apply hk; first|exact h|(apply h <;> assumption)) ?_
 rintro ⟨l,n⟩ K ⟨h1,h2,h3⟩ h
 refine ⟨Nat.le_of_ble_eq_true rfl,?_⟩
 dsimp only at h h1 h2 h3 ⊢
 repeat' (first|refine vz ?_|(conv=>whnf); first|with_reducible first|refine Sp.mk ?_ ?_|refine br_d (fun _=>?_) fun _=>?_|refine vM (fun _=>?_) fun _=>?_)
 refine Lp.mk ⟨Nat,fun i=>[(0,.row 0 1 0 l.length),(1,.int .i64 (n+i)),(5,.int .i64 i)],fun i=>[.row 1 l.length (mixF i (fun j=>encI (n+(j:Int))) fun j=>encI (l.getD j 0))],fun i=>i≤l.length,fun i=>l.length-i,⟨0,Nat.zero_le _,⟨⟨[some 0],[],rfl,rfl,?_,?_⟩⟩⟩,?_⟩
 ·exact wq
 ·exact wq
 intro i i1
 dsimp only
 repeat' (first|refine vz ?_|(conv=>whnf); first|with_reducible first|refine Sp.mk ?_ ?_|refine br_d (fun _=>?_) fun _=>?_|refine vM (fun _=>?_) fun _=>?_)
 ·refine ⟨i+1,by omega,by omega,⟨⟨[some 0],[],rfl,rfl,?_,?_⟩⟩⟩
  ·exact wq
  ·repeat' ((conv=>whnf); first|with_reducible exact True.intro|exact vW|with_reducible refine And.intro ?_ ?_)
   all_goals exact Chk.mk (mix_step rfl)
 ·obtain rfl:i=l.length:=by omega
  refine ⟨_,_,[some 0],[],rfl,rfl,?_,?_,h⟩
  ·exact wq
  ·repeat' ((conv=>whnf); first|with_reducible exact True.intro|exact vW|with_reducible refine And.intro ?_ ?_)
   all_goals exact Chk.mk ⟨rfl,fun j hj=>by show encI _=_; rw [mksI_get hj,mix_lt hj]⟩
structure Hd where
 k:Nat
 n:Int
def C189:List AV→(AV→Prop)→Prop:=con (X:=Hd) (fun x=>[slI (mksI x.n x.k),.int .i64 x.n]) (fun x=>0≤x.n∧x.n≤1000000000000000∧x.k≤1000000000000000) fun x K=>K (.int .i64 (x.n+x.k))
theorem F189:FF 98 C189:=by
 refine fitE [] (by simp) Tryz.f98 ⟨rfl,by decide +kernel,by decide +kernel⟩ (fun _ _ _ hk h=>hk _ h) ?_
 rintro ⟨k,n⟩ K ⟨h1,h2,h3⟩ h
 refine ⟨Nat.le_of_ble_eq_true rfl,?_⟩
 dsimp only at h h1 h2 h3 ⊢
 have hl:=mksI_len n k
 obtain ⟨l,hle⟩:∃ l,mksI n k=l:=⟨_,rfl⟩
 rw [hle] at hl ⊢
 have hg:∀ i:Nat,i<k→l.getD i 0=n+i:=fun i hi=>by rw [← hle]; exact mksI_get hi
 repeat' (first|refine vz ?_|(conv=>whnf); first|with_reducible first|refine Sp.mk ?_ ?_|refine br_d (fun _=>?_) fun _=>?_|refine vM (fun _=>?_) fun _=>?_)
 refine Lp.mk ⟨Nat,fun i=>[(0,slI l),(1,.int .i64 (n+i)),(5,.int .i64 i)],fun _=>[],fun i=>i≤l.length,fun i=>l.length-i,⟨0,Nat.zero_le _,⟨⟨[],[],rfl,rfl,?_,?_⟩⟩⟩,?_⟩
 ·exact wq
 ·exact wq
 intro i i1
 dsimp only
 by_cases hi:i<l.length
 ·have hgi:=hg i (by omega)
  have hgi':l.getD (i:Int).toNat 0=n+i:=hgi
  repeat' (first|refine vz ?_|(conv=>whnf); first|with_reducible first|refine Sp.mk ?_ ?_|refine br_d (fun _=>?_) fun _=>?_|refine vM (fun _=>?_) fun _=>?_)
  ·refine ⟨i+1,by omega,by omega,⟨⟨[],[],rfl,rfl,?_,?_⟩⟩⟩
   ·exact wq
   ·exact wq
 ·obtain rfl:i=l.length:=by omega
  rw [← hl] at h
  repeat' (first|refine vz ?_|(conv=>whnf); first|with_reducible first|refine Sp.mk ?_ ?_|refine br_d (fun _=>?_) fun _=>?_|refine vM (fun _=>?_) fun _=>?_)
  exact h
structure Dg where
 m:Nat
 k:Nat
 acc:ByteArray
def C186:List AV→(AV→Prop)→Prop:=con (X:=Int) (fun n=>[.int .i64 n]) (fun n=>0≤n∧n≤4000000000000000) fun n K=>K (.str (mkT n))
theorem F186:FF 57 C186:=by
 refine fitE [] (by simp) Tryz.f57 ⟨rfl,by decide +kernel,by decide +kernel⟩ (fun _ _ _ hk h=>hk _ h) ?_
 rintro n K ⟨h1,h2⟩ h
 refine ⟨Nat.le_of_ble_eq_true rfl,?_⟩
 unfold mkT at h
 by_cases h0:n≤0
 ·rw [if_pos h0] at h
  repeat' (first|refine vz ?_|(conv=>whnf); first|with_reducible first|refine Sp.mk ?_ ?_|refine br_d (fun _=>?_) fun _=>?_|refine vM (fun _=>?_) fun _=>?_)
  exact h
 rw [if_neg h0] at h
 have h40:(4000000000000000:Nat)<10 ^ 40:=by decide
 repeat' (first|refine vz ?_|(conv=>whnf); first|with_reducible first|refine Sp.mk ?_ ?_|refine br_d (fun _=>?_) fun _=>?_|refine vM (fun _=>?_) fun _=>?_)
 refine Lp.mk ⟨Dg,fun x=>[(0,.int .i64 x.m),(3,.str x.acc)],fun _=>[],fun x=>digT x.k x.m x.acc=digT 40 n.toNat ⟨#[]⟩∧x.m<10 ^ x.k∧x.acc.size+x.k≤40∧x.m≤4000000000000000,fun x=>x.m,⟨⟨n.toNat,40,⟨#[]⟩⟩,⟨rfl,by dsimp only; omega,Nat.le_refl _,by dsimp only; omega⟩,⟨⟨[],[],rfl,rfl,?_,?_⟩⟩⟩,?_⟩
 ·repeat' ((conv=>whnf); first|with_reducible exact True.intro|exact vW|with_reducible refine And.intro ?_ ?_)
  all_goals exact Chk.mk (by dsimp only; omega)
 ·exact wq
 rintro ⟨m,k,acc⟩ ⟨i1,i2,i3,i4⟩
 dsimp only at i1 i2 i3 i4 ⊢
 by_cases hm:0<m
 ·cases k with
  |zero=>simp at i2; omega
  |succ k =>
   have e1:(m:Int).tmod 10=(m % 10:Nat):=by rw [Int.tmod_eq_emod_of_nonneg (by omega)]; omega
   have e2:(m:Int).tdiv 10=(m / 10:Nat):=by rw [Int.tdiv_eq_ediv_of_nonneg (by omega)]; omega
   repeat' (first|refine vz ?_|(conv=>whnf); first|with_reducible first|refine Sp.mk ?_ ?_|refine br_d (fun _=>?_) fun _=>?_|refine vM (fun _=>?_) fun _=>?_)
   (conv=>whnf)
   rw [e1]
   repeat' (first|refine vz ?_|(conv=>whnf); first|with_reducible first|refine Sp.mk ?_ ?_|refine br_d (fun _=>?_) fun _=>?_|refine vM (fun _=>?_) fun _=>?_)
   refine ⟨Chk.mk (by rw [str1]; show 1+acc.size≤_; omega),?_⟩
   rw [str1]
   have e3:(48+((m % 10:Nat):Int)).toNat=48+m % 10:=by omega
   rw [e3]
   repeat' (first|refine vz ?_|(conv=>whnf); first|with_reducible first|refine Sp.mk ?_ ?_|refine br_d (fun _=>?_) fun _=>?_|refine vM (fun _=>?_) fun _=>?_)
   (conv=>whnf)
   try rw [e2]
   repeat' (first|refine vz ?_|(conv=>whnf); first|with_reducible first|refine Sp.mk ?_ ?_|refine br_d (fun _=>?_) fun _=>?_|refine vM (fun _=>?_) fun _=>?_)
   have e4:digT k (m / 10) (⟨#[UInt8.ofNat (48+m % 10)]⟩ ++ acc)=digT 40 n.toNat ⟨#[]⟩:=by
    rw [← i1]
    show _=if m=0 then acc else _
    rw [if_neg (by omega)]
   refine ⟨⟨m / 10,k,⟨#[UInt8.ofNat (48+m % 10)]⟩ ++ acc⟩,⟨e4,by rw [Nat.pow_succ] at i2; dsimp only; omega,by rw [ByteArray.size_append]; show 1+acc.size+k≤40; omega,by dsimp only; omega⟩,by dsimp only; omega,⟨⟨[],[],rfl,rfl,?_,?_⟩⟩⟩
   ·exact wq
   ·exact wq
 ·obtain rfl:m=0:=by omega
  have e:digT k 0 acc=acc:=by cases k <;> rfl
  rw [e] at i1
  rw [← i1] at h
  repeat' (first|refine vz ?_|(conv=>whnf); first|with_reducible first|refine Sp.mk ?_ ?_|refine br_d (fun _=>?_) fun _=>?_|refine vM (fun _=>?_) fun _=>?_)
  refine ⟨⟨by show 1+acc.size≤_; omega⟩,?_⟩
  repeat' (first|refine vz ?_|(conv=>whnf); first|with_reducible first|refine Sp.mk ?_ ?_|refine br_d (fun _=>?_) fun _=>?_|refine vM (fun _=>?_) fun _=>?_)
  exact h
structure Ms where
 l:List ByteArray
 n:Int
def C169:GC:=conG (X:=Ms) (fun x=>[.row 0 1 0 x.l.length,.int .i64 x.n]) (fun x=>[.row 1 x.l.length fun i=>encS (x.l.getD i ⟨#[]⟩)]) (fun x=>0≤x.n∧x.n≤2000000000000000∧x.l.length≤1000000000000000) fun x K=>K (.int .i64 (x.n+x.l.length)) [.row 1 x.l.length fun i=>encS ((mksS x.n x.l.length).getD i ⟨#[]⟩)]
theorem F169:GG 20 C169:=by
 refine fitG [(57,C186)] (by simp only [List.mem_cons,List.not_mem_nil,or_false]; rintro _ rfl <;> first|exact F186) [] (by simp) Tryz.f20 ⟨rfl,by decide +kernel,by decide +kernel⟩ (by intro x K K2 hk h; (try dsimp only at h ⊢); intros; apply hk; first|exact h|(apply h <;> assumption)) ?_
 rintro ⟨l,n⟩ K ⟨h1,h2,h3⟩ h
 refine ⟨Nat.le_of_ble_eq_true rfl,?_⟩
 dsimp only at h h1 h2 h3 ⊢
 repeat' (first|refine vz ?_|(conv=>whnf); first|with_reducible first|refine Sp.mk ?_ ?_|refine br_d (fun _=>?_) fun _=>?_|refine vM (fun _=>?_) fun _=>?_)
 refine Lp.mk ⟨Nat,fun i=>[(0,.row 0 1 0 l.length),(1,.int .i64 (n+i)),(5,.int .i64 i)],fun i=>[.row 1 l.length (mixF i (fun j=>encS (mkT (n+(j:Int)))) fun j=>encS (l.getD j ⟨#[]⟩))],fun i=>i≤l.length,fun i=>l.length-i,⟨0,Nat.zero_le _,⟨⟨[some 0],[],rfl,rfl,?_,?_⟩⟩⟩,?_⟩
 ·exact wq
 ·exact wq
 intro i i1
 dsimp only
 repeat' (first|refine vz ?_|(conv=>whnf); first|with_reducible first|refine Sp.mk ?_ ?_|refine br_d (fun _=>?_) fun _=>?_|refine vM (fun _=>?_) fun _=>?_)
 ·refine ⟨n+i,?_,⟨by omega,by omega⟩,?_⟩
  ·exact wq
  repeat' (first|refine vz ?_|(conv=>whnf); first|with_reducible first|refine Sp.mk ?_ ?_|refine br_d (fun _=>?_) fun _=>?_|refine vM (fun _=>?_) fun _=>?_)
  refine ⟨i+1,by omega,by omega,⟨⟨[some 0],[],rfl,rfl,?_,?_⟩⟩⟩
  ·exact wq
  ·repeat' ((conv=>whnf); first|with_reducible exact True.intro|exact vW|with_reducible refine And.intro ?_ ?_)
   all_goals exact Chk.mk (mix_step rfl)
 ·obtain rfl:i=l.length:=by omega
  refine ⟨_,_,[some 0],[],rfl,rfl,?_,?_,h⟩
  ·exact wq
  ·repeat' ((conv=>whnf); first|with_reducible exact True.intro|exact vW|with_reducible refine And.intro ?_ ?_)
   all_goals exact Chk.mk ⟨rfl,fun j hj=>by show encS _=_; rw [mksS_get hj,mix_lt hj]⟩
def C188:List AV→(AV→Prop)→Prop:=con (X:=Hd) (fun x=>[slS (mksS x.n x.k),.int .i64 x.n]) (fun x=>0≤x.n∧x.n≤2000000000000000∧x.k≤1000000000000000) fun x K=>K (.int .i64 (x.n+x.k))
theorem F188:FF 21 C188:=by
 refine fitE [(57,C186)] (by simp only [List.mem_cons,List.not_mem_nil,or_false]; rintro _ rfl <;> first|exact F186) Tryz.f21 ⟨rfl,by decide +kernel,by decide +kernel⟩ (fun _ _ _ hk h=>hk _ h) ?_
 rintro ⟨k,n⟩ K ⟨h1,h2,h3⟩ h
 refine ⟨Nat.le_of_ble_eq_true rfl,?_⟩
 dsimp only at h h1 h2 h3 ⊢
 have hl:=mksS_len n k
 obtain ⟨l,hle⟩:∃ l,mksS n k=l:=⟨_,rfl⟩
 rw [hle] at hl ⊢
 have hg:∀ i:Nat,i<k→l.getD i ⟨#[]⟩=mkT (n+i):=fun i hi=>by rw [← hle]; exact mksS_get hi
 repeat' (first|refine vz ?_|(conv=>whnf); first|with_reducible first|refine Sp.mk ?_ ?_|refine br_d (fun _=>?_) fun _=>?_|refine vM (fun _=>?_) fun _=>?_)
 refine Lp.mk ⟨Nat,fun i=>[(0,slS l),(1,.int .i64 (n+i)),(5,.int .i64 i)],fun _=>[],fun i=>i≤l.length,fun i=>l.length-i,⟨0,Nat.zero_le _,⟨⟨[],[],rfl,rfl,?_,?_⟩⟩⟩,?_⟩
 ·exact wq
 ·exact wq
 intro i i1
 dsimp only
 by_cases hi:i<l.length
 ·have hgi:=hg i (by omega)
  have hgi':l.getD (i:Int).toNat ⟨#[]⟩=mkT (n+i):=hgi
  repeat' (first|refine vz ?_|(conv=>whnf); first|with_reducible first|refine Sp.mk ?_ ?_|refine br_d (fun _=>?_) fun _=>?_|refine vM (fun _=>?_) fun _=>?_)
  refine Dr.mk ⟨(.rd 0 (.rd 1 (.rd 2 (.rd 3 (.rd 4 (.ef 5 (.rd 6 .dn) .no)))))),by decide +kernel,?_⟩
  repeat' (first|refine vz ?_|(conv=>whnf); first|with_reducible first|refine Sp.mk ?_ ?_|refine br_d (fun _=>?_) fun _=>?_|refine vM (fun _=>?_) fun _=>?_)
  refine ⟨n+i,?_,⟨by omega,by omega⟩,?_⟩
  ·exact wq
  repeat' (first|refine vz ?_|(conv=>whnf); first|with_reducible first|refine Sp.mk ?_ ?_|refine br_d (fun _=>?_) fun _=>?_|refine vM (fun _=>?_) fun _=>?_)
  refine ⟨i+1,by omega,by omega,⟨⟨[],[],rfl,rfl,?_,?_⟩⟩⟩
  ·exact wq
  ·exact wq
 ·obtain rfl:i=l.length:=by omega
  rw [← hl] at h
  repeat' (first|refine vz ?_|(conv=>whnf); first|with_reducible first|refine Sp.mk ?_ ?_|refine br_d (fun _=>?_) fun _=>?_|refine vM (fun _=>?_) fun _=>?_)
  exact h
structure Mh where
 p:Int
 l:List Int
 n:Int
def C168:GC:=conG (X:=Mh) (fun x=>[.agg [.int .i64 x.p,.row 0 1 0 x.l.length],.int .i64 x.n]) (fun x=>[.row 1 x.l.length fun i=>encI (x.l.getD i 0)]) (fun x=>0≤x.n∧x.n≤1000000000000000∧x.l.length≤1000000000000000) fun x K=>K (.int .i64 (x.n+x.l.length)) [.row 1 x.l.length fun i=>encI ((mksI x.n x.l.length).getD i 0)]
theorem F168:GG 95 C168:=by
 refine fitG [] (by simp) [(96,C185)] (by simp only [List.mem_cons,List.not_mem_nil,or_false]; rintro _ rfl <;> first|exact F185) Tryz.f95 ⟨rfl,by decide +kernel,by decide +kernel⟩ (by intro x K K2 hk h; (try dsimp only at h ⊢); intros; apply hk; first|exact h|(apply h <;> assumption)) ?_
 rintro ⟨p,l,n⟩ K hp h
 refine ⟨Nat.le_of_ble_eq_true rfl,?_⟩
 dsimp only at h hp ⊢
 repeat' (first|refine vz ?_|(conv=>whnf); first|with_reducible first|refine Sp.mk ?_ ?_|refine br_d (fun _=>?_) fun _=>?_|refine vM (fun _=>?_) fun _=>?_)
 refine ⟨_,_,[0],[],rfl,?_,?_,⟨l,n⟩,rfl,rfl,⟨hp⟩,?_⟩
 ·exact wq
 ·exact wq
 dsimp only
 repeat' (first|refine vz ?_|(conv=>whnf); first|with_reducible first|refine Sp.mk ?_ ?_|refine br_d (fun _=>?_) fun _=>?_|refine vM (fun _=>?_) fun _=>?_)
 refine ⟨_,_,[some 0],[],rfl,rfl,?_,?_,h⟩
 ·exact wq
 ·exact wq
structure Mp where
 x:Place
 n:Int
def plW (x:Place):AV:=.agg [.int .i64 x.p,.row 0 1 0 x.bs.length,.row 1 1 0 x.rules.length]
def plR (x:Place):List Obj:=[.row 1 x.bs.length fun i=>encI (x.bs.getD i 0),.row 1 x.rules.length fun i=>encS (x.rules.getD i ⟨#[]⟩)]
def mkPl (x:Place) (n:Int):Place:=⟨x.p,mksI n x.bs.length,mksS (n+x.bs.length) x.rules.length⟩
def mkPre (x:Mp):Prop:=0≤x.n∧x.n≤100000000000000∧x.x.bs.length≤100000000000000∧x.x.rules.length≤100000000000000
def C148:GC:=conG (X:=Mp) (fun x=>[plW x.x,.int .i64 x.n]) (fun x=>plR x.x) mkPre fun x K=>K (.int .i64 (x.n+x.x.bs.length+x.x.rules.length)) (plR (mkPl x.x x.n))
theorem F148:GG 52 C148:=by
 refine fitG [] (by simp) [(95,C168),(20,C169)] (by simp only [List.mem_cons,List.not_mem_nil,or_false]; rintro _ (rfl|rfl) <;> first|exact F168|exact F169) Tryz.f52 ⟨rfl,by decide +kernel,by decide +kernel⟩ (by intro x K K2 hk h; (try dsimp only at h ⊢); intros; apply hk; first|exact h|(apply h <;> assumption)) ?_
 rintro ⟨⟨p,bs,rs⟩,n⟩ K ⟨h1,h2,h3,h4⟩ h
 refine ⟨Nat.le_of_ble_eq_true rfl,?_⟩
 unfold plR mkPl at h
 dsimp only [plW,plR] at h h1 h2 h3 h4 ⊢
 rw [mksI_len,mksS_len] at h
 repeat' (first|refine vz ?_|(conv=>whnf); first|with_reducible first|refine Sp.mk ?_ ?_|refine br_d (fun _=>?_) fun _=>?_|refine vM (fun _=>?_) fun _=>?_)
 refine ⟨_,_,[0],[],rfl,?_,?_,⟨p,bs,n⟩,rfl,rfl,⟨by dsimp only; omega,by dsimp only; omega,by dsimp only; omega⟩,?_⟩
 ·exact wq
 ·exact wq
 dsimp only
 repeat' (first|refine vz ?_|(conv=>whnf); first|with_reducible first|refine Sp.mk ?_ ?_|refine br_d (fun _=>?_) fun _=>?_|refine vM (fun _=>?_) fun _=>?_)
 refine ⟨_,_,[1],[],rfl,?_,?_,⟨rs,n+bs.length⟩,rfl,rfl,⟨by dsimp only; omega,by dsimp only; omega,by dsimp only; omega⟩,?_⟩
 ·exact wq
 ·exact wq
 dsimp only
 repeat' (first|refine vz ?_|(conv=>whnf); first|with_reducible first|refine Sp.mk ?_ ?_|refine br_d (fun _=>?_) fun _=>?_|refine vM (fun _=>?_) fun _=>?_)
 refine ⟨_,_,[some 0,some 1],[],rfl,rfl,?_,?_,h⟩
 ·exact wq
 ·exact wq
def C187:List AV→(AV→Prop)→Prop:=con (X:=Int × Hd) (fun x=>[.agg [.int .i64 x.1,slI (mksI x.2.n x.2.k)],.int .i64 x.2.n]) (fun x=>0≤x.2.n∧x.2.n≤1000000000000000∧x.2.k≤1000000000000000) fun x K=>K (.int .i64 (x.2.n+x.2.k))
theorem F187:FF 97 C187:=by
 refine fitE [(98,C189)] (by simp only [List.mem_cons,List.not_mem_nil,or_false]; rintro _ rfl <;> first|exact F189) Tryz.f97 ⟨rfl,by decide +kernel,by decide +kernel⟩ (fun _ _ _ hk h=>hk _ h) ?_
 rintro ⟨p,⟨k,n⟩⟩ K hp h
 refine ⟨Nat.le_of_ble_eq_true rfl,?_⟩
 dsimp only at h hp ⊢
 repeat' (first|refine vz ?_|(conv=>whnf); first|with_reducible first|refine Sp.mk ?_ ?_|refine br_d (fun _=>?_) fun _=>?_|refine vM (fun _=>?_) fun _=>?_)
 refine ⟨⟨k,n⟩,?_,⟨hp⟩,?_⟩
 ·exact wq
 dsimp only
 repeat' (first|refine vz ?_|(conv=>whnf); first|with_reducible first|refine Sp.mk ?_ ?_|refine br_d (fun _=>?_) fun _=>?_|refine vM (fun _=>?_) fun _=>?_)
 exact h
def C171:List AV→(AV→Prop)→Prop:=con (X:=Mp) (fun x=>[enPl (mkPl x.x x.n),.int .i64 x.n]) mkPre fun x K=>K (.int .i64 (x.n+x.x.bs.length+x.x.rules.length))
theorem F171:FF 54 C171:=by
 refine fitE [(97,C187),(21,C188)] (by simp only [List.mem_cons,List.not_mem_nil,or_false]; rintro _ (rfl|rfl) <;> first|exact F187|exact F188) Tryz.f54 ⟨rfl,by decide +kernel,by decide +kernel⟩ (fun _ _ _ hk h=>hk _ h) ?_
 rintro ⟨⟨p,bs,rs⟩,n⟩ K ⟨h1,h2,h3,h4⟩ h
 refine ⟨Nat.le_of_ble_eq_true rfl,?_⟩
 dsimp only [enPl,plC,mkPl] at h h1 h2 h3 h4 ⊢
 repeat' (first|refine vz ?_|(conv=>whnf); first|with_reducible first|refine Sp.mk ?_ ?_|refine br_d (fun _=>?_) fun _=>?_|refine vM (fun _=>?_) fun _=>?_)
 refine ⟨(p,⟨bs.length,n⟩),?_,⟨by dsimp only; omega,by dsimp only; omega,by dsimp only; omega⟩,?_⟩
 ·exact wq
 dsimp only
 repeat' (first|refine vz ?_|(conv=>whnf); first|with_reducible first|refine Sp.mk ?_ ?_|refine br_d (fun _=>?_) fun _=>?_|refine vM (fun _=>?_) fun _=>?_)
 refine ⟨⟨rs.length,n+bs.length⟩,?_,⟨by dsimp only; omega,by dsimp only; omega,by dsimp only; omega⟩,?_⟩
 ·exact wq
 dsimp only
 repeat' (first|refine vz ?_|(conv=>whnf); first|with_reducible first|refine Sp.mk ?_ ?_|refine br_d (fun _=>?_) fun _=>?_|refine vM (fun _=>?_) fun _=>?_)
 exact h
end Go.Proofs.YtgdbhjmpkkbnnaaGreatDoor.Vc
end
section
/- Part NF: marks of rows of places: plain law. -/
namespace Go.Proofs.YtgdbhjmpkkbnnaaGreatDoor.Vc
open Go.Proofs
set_option maxRecDepth 10000
set_option maxHeartbeats 4000000
def mkN:List Place→Nat
 |[]=>0
 |x :: r=>1+x.bs.length+x.rules.length+mkN r
theorem mkN_app:∀ (l r:List Place),mkN (l ++ r)=mkN l+mkN r
 |[],r=>(Nat.zero_add _).symm
 |x :: l,r=>by rw [List.cons_append,mkN,mkN,mkN_app l r]; omega
theorem mkN_step {l:List Place} {i:Nat} (h:i<l.length):mkN (l.take (i+1))=mkN (l.take i)+(1+(l.getD i default).bs.length+(l.getD i default).rules.length):=by
 rw [take_succ' default h,mkN_app]
 simp [mkN]
theorem mkN_le {l:List Place} {i:Nat}:mkN (l.take i)≤mkN l:=by
 have:=mkN_app (l.take i) (l.drop i)
 rw [List.take_append_drop] at this
 omega
def mkAt (l:List Place) (n:Int) (j:Nat):Place:=⟨n+mkN (l.take j),mksI (n+mkN (l.take j)+1) (l.getD j default).bs.length,mksS (n+mkN (l.take j)+1+(l.getD j default).bs.length) (l.getD j default).rules.length⟩
def mkPs (l:List Place) (n:Int):List Place:=(List.range l.length).map fun j=>mkAt l n j
theorem mkPs_len (l:List Place) (n:Int):(mkPs l n).length=l.length:=by simp [mkPs]
theorem mkPs_get {l:List Place} {n:Int} {j:Nat} (h:j<l.length):(mkPs l n).getD j default=mkAt l n j:=by
 unfold mkPs
 rw [List.getD_eq_getElem?_getD,List.getElem?_map,List.getElem?_range h]
 rfl
structure Mps where
 l:List Place
 n:Int
def mpsPre (x:Mps):Prop:=0≤x.n∧x.n≤10000000000000∧mkN x.l≤10000000000000∧x.l.length≤10000000000000
def mkDe (d:Desk) (n:Int):Desk:=⟨mkPl d.now n,mkPs d.past (n+d.now.bs.length+d.now.rules.length)⟩
def mkM (d:Desk):Nat:=d.now.bs.length+d.now.rules.length+mkN d.past
structure Mds where
 d:Desk
 n:Int
def mdsPre (x:Mds):Prop:=0≤x.n∧x.n≤1000000000000∧x.d.now.bs.length≤1000000000000∧x.d.now.rules.length≤1000000000000∧mkN x.d.past≤10000000000000∧x.d.past.length≤10000000000000
end Go.Proofs.YtgdbhjmpkkbnnaaGreatDoor.Vc
end
section
/- Part NH: marks of desks with a past. -/
namespace Go.Proofs.YtgdbhjmpkkbnnaaGreatDoor.Vc
open Go.Proofs
set_option maxRecDepth 10000
set_option maxHeartbeats 4000000
theorem setF_at {X:Nat→List AV} {i:Nat} {v:List AV}:setF X i v i=v:=by
 unfold setF
 rw [Nat.beq_refl]
 rfl
theorem setF_two {X:Nat→List AV} {i:Nat} {u v:List AV}:setF (setF X i u) i v=setF X i v:=by
 funext j
 unfold setF
 cases Nat.beq j i <;> rfl
theorem mkAt_cells (a:Int) (m:Int) (b:Nat) (m':Int) (c:Nat):[.int .i64 a,.sl 1 b fun j=>encI ((mksI m b).getD j 0),.sl 1 c fun j=>encS ((mksS m' c).getD j ⟨#[]⟩)]=plC ⟨a,mksI m b,mksS m' c⟩:=by
 unfold plC
 dsimp only [slI,slS]
 rw [mksI_len,mksS_len]
def C170n:GC:=conG (X:=Mps) (fun x=>[.row 0 3 0 x.l.length,.int .i64 x.n]) (fun x=>[npO x.l]) mpsPre fun x K=>K (.int .i64 (x.n+mkN x.l)) [npO (mkPs x.l x.n)]
theorem F170n:GG 53 C170n:=by
 refine fitG [] (by simp) [(96,C185),(20,C169)] (by simp only [List.mem_cons,List.not_mem_nil,or_false]; rintro _ (rfl|rfl) <;> first|exact F185|exact F169) Tryz.f53 ⟨rfl,by decide +kernel,by decide +kernel⟩ (by intro x K K2 hk h; (try dsimp only at h ⊢); intros; apply hk; first|exact h|(apply h <;> assumption)) ?_
 rintro ⟨l,n⟩ K ⟨h1,h2,h3,h4⟩ h
 refine ⟨Nat.le_of_ble_eq_true rfl,?_⟩
 unfold npO at h
 dsimp only [npO] at h h1 h2 h3 h4 ⊢
 repeat' (first|refine vz ?_|(conv=>whnf); first|with_reducible first|refine Sp.mk ?_ ?_|refine br_d (fun _=>?_) fun _=>?_|refine vM (fun _=>?_) fun _=>?_)
 refine Lp.mk ⟨Nat,fun i=>[(0,.row 0 3 0 l.length),(1,.int .i64 (n+mkN (l.take i))),(5,.int .i64 i)],fun i=>[.nrow 3 l.length (mixF i (fun j=>plC (mkAt l n j)) fun j=>plC (l.getD j default)) none],fun i=>i≤l.length,fun i=>l.length-i,⟨0,Nat.zero_le _,⟨⟨[some 0],[],rfl,rfl,?_,?_⟩⟩⟩,?_⟩
 ·repeat' ((conv=>whnf); first|with_reducible exact True.intro|exact vW|with_reducible refine And.intro ?_ ?_)
  all_goals exact Chk.mk (by show n+((0:Nat):Int)=n; omega)
 ·exact wq
 intro i i1
 dsimp only
 have hN:=mkN_le (l:=l) (i:=i)
 by_cases hi:i<l.length
 ·have hN2:=mkN_le (l:=l) (i:=i+1)
  rw [mkN_step hi] at hN2
  obtain ⟨q,hq⟩:∃ q,l.getD i default=q:=⟨_,rfl⟩
  have hst:=mkN_step hi
  have hmk:mkAt l n i=⟨n+mkN (l.take i),mksI (n+mkN (l.take i)+1) q.bs.length,mksS (n+mkN (l.take i)+1+q.bs.length) q.rules.length⟩:=by unfold mkAt; rw [hq]
  rw [hq] at hst hN2
  obtain ⟨qp,qb,qr⟩:=q
  dsimp only at hst hN2 hmk
  generalize hM:mkN (l.take i)=M at *
  have hcs:setF (mixF i (fun j=>plC (mkAt l n j)) fun j=>plC (l.getD j default)) (0+i) (setCells (mixF i (fun j=>plC (mkAt l n j)) (fun j=>plC (l.getD j default)) (0+i)) 0 [.int .i64 (n+M)]) i=[.int .i64 (n+M),slI qb,slS qr]:=by
   rw [Nat.zero_add,setF_at,mix_at]
   show setCells (plC (l.getD i default)) 0 _=_
   rw [hq]
   rfl
  repeat' ((conv=>whnf); first|with_reducible refine wk_at 6 ?_|with_reducible refine wk_at1 6 ?_|with_reducible refine wk_at2 6 ?_|refine vA ?_|with_reducible first|refine v8 ?_|refine Ch.l ?_|refine Sp.mk ?_ ?_|refine vS ?_|refine vR ?_|refine vB ?_|refine br_nt ?_|refine br_tt ?_|refine br_ff ?_|refine vP ?_|refine vQ ?_|refine vT ?_|refine vF ?_|refine br_and ?_|refine br_or ?_|refine br_d (fun _=>?_) fun _=>?_|refine vM (fun _=>?_) fun _=>?_)
  refine ⟨Wk.mv _ (.cons _ _ _ (.op 0 3 _ _ i _ rfl hi hcs (by conv=>whnf)) (.nil _)) ?_⟩
  repeat' (first|refine vz ?_|(conv=>whnf); first|with_reducible first|refine Sp.mk ?_ ?_|refine br_d (fun _=>?_) fun _=>?_|refine vM (fun _=>?_) fun _=>?_)
  refine ⟨_,_,[1],[],rfl,?_,?_,⟨qb,n+M+1⟩,rfl,rfl,⟨by dsimp only; omega,by dsimp only; omega,by dsimp only; omega⟩,?_⟩
  ·exact wq
  ·exact wq
  dsimp only
  repeat' (first|refine vz ?_|(conv=>whnf); first|with_reducible first|refine Sp.mk ?_ ?_|refine br_d (fun _=>?_) fun _=>?_|refine vM (fun _=>?_) fun _=>?_)
  refine ⟨_,_,[2],[],rfl,?_,?_,⟨qr,n+M+1+qb.length⟩,rfl,rfl,⟨by dsimp only; omega,by dsimp only; omega,by dsimp only; omega⟩,?_⟩
  ·exact wq
  ·exact wq
  dsimp only
  repeat' ((conv=>whnf); first|with_reducible refine wk_at 3 ?_|with_reducible refine wk_at1 3 ?_|with_reducible refine wk_at2 3 ?_|refine vA ?_|with_reducible first|refine v8 ?_|refine Ch.l ?_|refine Sp.mk ?_ ?_|refine vS ?_|refine vR ?_|refine vB ?_|refine br_nt ?_|refine br_tt ?_|refine br_ff ?_|refine vP ?_|refine vQ ?_|refine vT ?_|refine vF ?_|refine br_and ?_|refine br_or ?_|refine br_d (fun _=>?_) fun _=>?_|refine vM (fun _=>?_) fun _=>?_)
  refine ⟨Wk.mv _ (.cons _ _ _ (.cl 0 3 _ _ i _ _ _ _ rfl rfl ⟨rfl,rfl,trivial⟩ rfl (by conv=>whnf)) (.nil _)) ?_⟩
  repeat' (first|refine vz ?_|(conv=>whnf); first|with_reducible first|refine Sp.mk ?_ ?_|refine br_d (fun _=>?_) fun _=>?_|refine vM (fun _=>?_) fun _=>?_)
  refine ⟨i+1,by omega,by omega,⟨⟨[some 0],[],rfl,rfl,?_,?_⟩⟩⟩
  ·repeat' ((conv=>whnf); first|with_reducible exact True.intro|exact vW|with_reducible refine And.intro ?_ ?_)
   all_goals exact Chk.mk (by rw [hst]; omega)
  ·repeat' ((conv=>whnf); first|with_reducible exact True.intro|exact vW|with_reducible refine And.intro ?_ ?_)
   all_goals exact Chk.mk ⟨rfl,fun j _=>by
    rw [Nat.zero_add,Int.toNat_natCast,setF_two]
    exact mix_set (by rw [hmk]; exact mkAt_cells _ _ _ _ _) j⟩
 ·obtain rfl:i=l.length:=by omega
  repeat' (first|refine vz ?_|(conv=>whnf); first|with_reducible first|refine Sp.mk ?_ ?_|refine br_d (fun _=>?_) fun _=>?_|refine vM (fun _=>?_) fun _=>?_)
  refine ⟨_,_,[some 0],[],rfl,rfl,?_,?_,h⟩
  ·repeat' ((conv=>whnf); first|with_reducible exact True.intro|exact vW|with_reducible refine And.intro ?_ ?_)
   all_goals exact Chk.mk (by rw [List.take_length])
  ·repeat' ((conv=>whnf); first|with_reducible exact True.intro|exact vW|with_reducible refine And.intro ?_ ?_)
   all_goals exact Chk.mk ⟨by rw [mkPs_len],fun j hj=>by rw [mkPs_len] at hj; show plC _=_; rw [mkPs_get hj,mix_lt hj]⟩
def C172n:List AV→(AV→Prop)→Prop:=con (X:=Mps) (fun x=>[slP (mkPs x.l x.n),.int .i64 x.n]) mpsPre fun x K=>K (.int .i64 (x.n+mkN x.l))
theorem F172n:FF 55 C172n:=by
 refine fitE [(98,C189),(21,C188)] (by simp only [List.mem_cons,List.not_mem_nil,or_false]; rintro _ (rfl|rfl) <;> first|exact F189|exact F188) Tryz.f55 ⟨rfl,by decide +kernel,by decide +kernel⟩ (fun _ _ _ hk h=>hk _ h) ?_
 rintro ⟨l,n⟩ K ⟨h1,h2,h3,h4⟩ h
 refine ⟨Nat.le_of_ble_eq_true rfl,?_⟩
 dsimp only at h h1 h2 h3 h4 ⊢
 have hl:=mkPs_len l n
 have hg:∀ i:Nat,i<l.length→(mkPs l n).getD i default=mkAt l n i:=fun i hi=>mkPs_get hi
 generalize mkPs l n=L at hl hg ⊢
 repeat' (first|refine vz ?_|(conv=>whnf); first|with_reducible first|refine Sp.mk ?_ ?_|refine br_d (fun _=>?_) fun _=>?_|refine vM (fun _=>?_) fun _=>?_)
 refine Lp.mk ⟨Nat,fun i=>[(0,slP L),(1,.int .i64 (n+mkN (l.take i))),(5,.int .i64 i)],fun _=>[],fun i=>i≤l.length,fun i=>l.length-i,⟨0,Nat.zero_le _,⟨⟨[],[],rfl,rfl,?_,?_⟩⟩⟩,?_⟩
 ·repeat' ((conv=>whnf); first|with_reducible exact True.intro|exact vW|with_reducible refine And.intro ?_ ?_)
  all_goals exact Chk.mk (by show n+((0:Nat):Int)=n; omega)
 ·exact wq
 intro i i1
 dsimp only
 have hN:=mkN_le (l:=l) (i:=i)
 by_cases hi:i<l.length
 ·have hN2:=mkN_le (l:=l) (i:=i+1)
  have hst:=mkN_step hi
  rw [hst] at hN2
  have hgi:L.getD (i:Int).toNat default=mkAt l n i:=hg i hi
  have g1:(L.getD (i:Int).toNat default).p=n+mkN (l.take i):=by rw [hgi]; rfl
  have g2:(L.getD (i:Int).toNat default).bs=mksI (n+mkN (l.take i)+1) (l.getD i default).bs.length:=by rw [hgi]; rfl
  have g3:(L.getD (i:Int).toNat default).rules=mksS (n+mkN (l.take i)+1+(l.getD i default).bs.length) (l.getD i default).rules.length:=by rw [hgi]; rfl
  generalize mkN (l.take i)=M at *
  repeat' (first|refine vz ?_|(conv=>whnf); first|with_reducible first|refine Sp.mk ?_ ?_|refine br_d (fun _=>?_) fun _=>?_|refine vM (fun _=>?_) fun _=>?_)
  refine ⟨⟨(l.getD i default).bs.length,n+M+1⟩,?_,⟨by dsimp only; omega,by dsimp only; omega,by dsimp only; omega⟩,?_⟩
  ·repeat' ((conv=>whnf); first|with_reducible exact True.intro|exact vW|with_reducible refine And.intro ?_ ?_)
   all_goals exact Chk.mk (by rw [g2]; exact ⟨rfl,fun _ _=>rfl⟩)
  dsimp only
  repeat' (first|refine vz ?_|(conv=>whnf); first|with_reducible first|refine Sp.mk ?_ ?_|refine br_d (fun _=>?_) fun _=>?_|refine vM (fun _=>?_) fun _=>?_)
  refine ⟨⟨(l.getD i default).rules.length,n+M+1+(l.getD i default).bs.length⟩,?_,⟨by dsimp only; omega,by dsimp only; omega,by dsimp only; omega⟩,?_⟩
  ·repeat' ((conv=>whnf); first|with_reducible exact True.intro|exact vW|with_reducible refine And.intro ?_ ?_)
   all_goals exact Chk.mk (by rw [g3]; exact ⟨rfl,fun _ _=>rfl⟩)
  dsimp only
  repeat' (first|refine vz ?_|(conv=>whnf); first|with_reducible first|refine Sp.mk ?_ ?_|refine br_d (fun _=>?_) fun _=>?_|refine vM (fun _=>?_) fun _=>?_)
  refine ⟨i+1,by omega,by omega,⟨⟨[],[],rfl,rfl,?_,?_⟩⟩⟩
  ·repeat' ((conv=>whnf); first|with_reducible exact True.intro|exact vW|with_reducible refine And.intro ?_ ?_)
   all_goals exact Chk.mk (by rw [hst]; omega)
  ·exact wq
 ·obtain rfl:i=l.length:=by omega
  rw [List.take_length]
  repeat' (first|refine vz ?_|(conv=>whnf); first|with_reducible first|refine Sp.mk ?_ ?_|refine br_d (fun _=>?_) fun _=>?_|refine vM (fun _=>?_) fun _=>?_)
  exact h
def C149n:GC:=conG (X:=Mds) (fun x=>[deN x.d,.int .i64 x.n]) (fun x=>deO x.d) mdsPre fun x K=>K (.int .i64 (x.n+mkM x.d)) (deO (mkDe x.d x.n))
theorem F149n:GG 13 C149n:=by
 refine fitG [] (by simp) [(52,C148),(53,C170n)] (by simp only [List.mem_cons,List.not_mem_nil,or_false]; rintro _ (rfl|rfl) <;> first|exact F148|exact F170n) Tryz.f13 ⟨rfl,by decide +kernel,by decide +kernel⟩ (by intro x K K2 hk h; (try dsimp only at h ⊢); intros; apply hk; first|exact h|(apply h <;> assumption)) ?_
 rintro ⟨⟨⟨p,bs,rs⟩,l⟩,n⟩ K ⟨h1,h2,h3,h4,h5,h6⟩ h
 refine ⟨Nat.le_of_ble_eq_true rfl,?_⟩
 unfold deO mkDe mkPl mkM at h
 dsimp only [deN,deO,npO] at h h1 h2 h3 h4 h5 h6 ⊢
 repeat' (first|refine vz ?_|(conv=>whnf); first|with_reducible first|refine Sp.mk ?_ ?_|refine br_d (fun _=>?_) fun _=>?_|refine vM (fun _=>?_) fun _=>?_)
 refine ⟨_,_,[0,1],[],rfl,?_,?_,⟨⟨p,bs,rs⟩,n⟩,rfl,rfl,⟨by dsimp only; omega,by dsimp only; omega,by dsimp only; omega,by dsimp only; omega⟩,?_⟩
 ·exact wq
 ·exact wq
 dsimp only [plR,mkPl]
 repeat' (first|refine vz ?_|(conv=>whnf); first|with_reducible first|refine Sp.mk ?_ ?_|refine br_d (fun _=>?_) fun _=>?_|refine vM (fun _=>?_) fun _=>?_)
 refine ⟨_,_,[2],[],rfl,?_,?_,⟨l,n+bs.length+rs.length⟩,rfl,rfl,⟨by dsimp only; omega,by dsimp only; omega,by dsimp only; omega,by dsimp only; omega⟩,?_⟩
 ·exact wq
 ·exact wq
 dsimp only [npO]
 repeat' (first|refine vz ?_|(conv=>whnf); first|with_reducible first|refine Sp.mk ?_ ?_|refine br_d (fun _=>?_) fun _=>?_|refine vM (fun _=>?_) fun _=>?_)
 refine ⟨_,_,[some 0,some 1,some 2],[],rfl,rfl,?_,?_,h⟩
 ·exact wq
 ·exact wq
def deM (d:Desk) (n:Int):List Obj:=[.row 1 d.now.bs.length fun i=>encI ((mksI n d.now.bs.length).getD i 0),.row 1 d.now.rules.length fun i=>encS ((mksS (n+d.now.bs.length) d.now.rules.length).getD i ⟨#[]⟩),.nrow 3 d.past.length (fun i=>plC ((mkPs d.past (n+d.now.bs.length+d.now.rules.length)).getD i default)) none]
theorem deM_eq (d:Desk) (n:Int):deO (mkDe d n)=deM d n:=by
 unfold deO mkDe mkPl npO deM
 dsimp only
 rw [mksI_len,mksS_len,mkPs_len]
def C150n:List AV→(AV→Prop)→Prop:=con (X:=Mds) (fun x=>[enDe (mkDe x.d x.n),.int .i64 x.n]) mdsPre fun x K=>K (.int .i64 (x.n+mkM x.d))
theorem F150n:FF 14 C150n:=by
 refine fitXE [(54,C171),(55,C172n)] (by simp only [List.mem_cons,List.not_mem_nil,or_false]; rintro _ (rfl|rfl) <;> first|exact F171|exact F172n) [] (by simp) Tryz.f14 ⟨rfl,by decide +kernel,by decide +kernel⟩ (fun _ _ _ hk h=>hk _ h) ?_
 rintro ⟨⟨⟨p,bs,rs⟩,l⟩,n⟩ K ⟨h1,h2,h3,h4,h5,h6⟩ h
 refine ⟨Nat.le_of_ble_eq_true rfl,?_⟩
 unfold mkM at h
 dsimp only [enDe,deC,mkDe,mkPl] at h h1 h2 h3 h4 h5 h6 ⊢
 repeat' (first|refine vz ?_|(conv=>whnf); first|with_reducible first|refine Sp.mk ?_ ?_|refine br_d (fun _=>?_) fun _=>?_|refine vM (fun _=>?_) fun _=>?_)
 refine ⟨⟨⟨p,bs,rs⟩,n⟩,?_,⟨by dsimp only; omega,by dsimp only; omega,by dsimp only; omega,by dsimp only; omega⟩,?_⟩
 ·exact wq
 dsimp only
 repeat' (first|refine vz ?_|(conv=>whnf); first|with_reducible first|refine Sp.mk ?_ ?_|refine br_d (fun _=>?_) fun _=>?_|refine vM (fun _=>?_) fun _=>?_)
 refine ⟨⟨l,n+bs.length+rs.length⟩,?_,⟨by dsimp only; omega,by dsimp only; omega,by dsimp only; omega,by dsimp only; omega⟩,?_⟩
 ·exact wq
 dsimp only
 repeat' (first|refine vz ?_|(conv=>whnf); first|with_reducible first|refine Sp.mk ?_ ?_|refine br_d (fun _=>?_) fun _=>?_|refine vM (fun _=>?_) fun _=>?_)
 refine ⟨_,?_,h⟩
 repeat' ((conv=>whnf); first|with_reducible exact True.intro|exact vW|with_reducible refine And.intro ?_ ?_)
 all_goals exact Chk.mk (by omega)
end Go.Proofs.YtgdbhjmpkkbnnaaGreatDoor.Vc
end
section
/- Part TO: deeds and desks that are drawn. -/
namespace Go.Proofs.YtgdbhjmpkkbnnaaGreatDoor.Vc
open Go.Proofs
set_option maxRecDepth 10000
set_option maxHeartbeats 4000000
structure drawnA (a:Dd):Prop where
 k0:i64r a.kind
 a0:i64r a.a
 b0:i64r a.b
 w0:a.words.size≤10000
def placeS (x:Place):Prop:=placeI x∧x.bs.length≤4∧x.rules.length≤100000
/-! ### Desks that are drawn -/
structure drawnQ (x:Place):Prop where
 i:placeI x
 bl:x.bs.length≤4
 rl:x.rules.length≤4
 rr:∀ r∈x.rules,r.size≤10000
def drawnD (d:Desk):Prop:=drawnQ d.now∧d.past.length≤9∧∀ p∈d.past,drawnQ p
theorem drawnP.q {x:Place} (h:drawnP x):drawnQ x:=⟨h.I,h.bl,h.rl,h.rr⟩
theorem drawnQ.s {x:Place} (h:drawnQ x):shortP x:=⟨Nat.le_trans h.rl (by decide),Nat.le_trans h.bl (by decide)⟩
theorem drawnD.I {d:Desk} (h:drawnD d):deskI d:=⟨h.1.i,Nat.lt_of_le_of_lt h.2.1 (by decide),fun p hp=>(h.2.2 p hp).i⟩
theorem drawnA.I {a:Dd} (h:drawnA a):dedI a:=⟨h.k0,h.a0,h.b0,Nat.lt_of_le_of_lt h.w0 (by decide)⟩
end Go.Proofs.YtgdbhjmpkkbnnaaGreatDoor.Vc
end
section
/- Part UA: texts that are cut, and numbers that are read. -/
namespace Go.Proofs.YtgdbhjmpkkbnnaaGreatDoor.Vc
open Go.Proofs
set_option maxRecDepth 10000
/-! ### Numbers -/
def digB (b:UInt8):Prop:=48≤b.toNat∧b.toNat≤57
def valL (a:Nat):List UInt8→Nat
 |[]=>a
 |b :: l=>valL (a*10+(b.toNat-48)) l
theorem valL_app:∀ (l m:List UInt8) (a:Nat),valL a (l ++ m)=valL (valL a l) m
 |[],_,_=>rfl
 |_ :: l,m,_=>valL_app l m _
theorem dig_toNat {k:Nat} (h:k<10):(UInt8.ofNat (48+k)).toNat=48+k:=by
 rw [UInt8.toNat_ofNat']
 exact Nat.mod_eq_of_lt (by omega)
theorem dec_val (n:Nat):valL 0 (Lib.decDigits n)=n:=by
 induction n using Nat.strongRecOn with
 |_ n ih =>
  rw [Lib.decDigits]
  split
  ·rename_i h
   show 0*10+((UInt8.ofNat (48+n)).toNat-48)=n
   rw [dig_toNat h]
   omega
  ·rename_i h
   rw [valL_app,ih (n / 10) (by omega)]
   show n / 10*10+((UInt8.ofNat (48+n % 10)).toNat-48)=n
   rw [dig_toNat (by omega)]
   omega
theorem dec_dig (n:Nat):∀ b∈Lib.decDigits n,digB b:=by
 induction n using Nat.strongRecOn with
 |_ n ih =>
  rw [Lib.decDigits]
  split
  ·rename_i h
   intro b hb
   rw [List.mem_singleton.1 hb]
   unfold digB
   rw [dig_toNat h]
   omega
  ·rename_i h
   intro b hb
   rcases List.mem_append.1 hb with hb|hb
   ·exact ih _ (by omega) b hb
   ·rw [List.mem_singleton.1 hb]
    unfold digB
    rw [dig_toNat (by omega)]
    omega
theorem num_list (n:Nat):(num (n:Int)).data.toList=Lib.decDigits n:=by
 show (Lib.decDigits (n:Int).toNat).toArray.toList=_
 rw [Int.toNat_natCast]
theorem num_val (n:Nat):valL 0 (num (n:Int)).data.toList=n:=by rw [num_list,dec_val]
/-! ### Cutting -/
def headApp (x:List UInt8):List (List UInt8)→List (List UInt8)
 |y :: r=>(x ++ y) :: r
 |[]=>[x]
def cutL (c:UInt8):List UInt8→List (List UInt8)
 |[]=>[[]]
 |b :: l=>if b=c then [] :: cutL c l else headApp [b] (cutL c l)
theorem cutL_none {c:UInt8}:∀ {x:List UInt8},c ∉ x→cutL c x=[x]
 |[],_=>rfl
 |b :: x,h=>by
  unfold cutL
  rw [if_neg (fun e:b=c=>h (e ▸ List.mem_cons_self)),cutL_none fun q=>h (List.mem_cons_of_mem _ q)]
  rfl
theorem cutL_hit {c:UInt8} {r:List UInt8}:∀ {x:List UInt8},c ∉ x→cutL c (x ++ c :: r)=x :: cutL c r
 |[],_=>by show (if c=c then _ else _)=_; rw [if_pos rfl]
 |b :: x,h=>by
  show (if b=c then _ else headApp [b] (cutL c (x ++ c :: r)))=_
  rw [if_neg (fun e:b=c=>h (e ▸ List.mem_cons_self)),cutL_hit fun q=>h (List.mem_cons_of_mem _ q)]
  rfl
def cutB (s:ByteArray) (c:UInt8):List ByteArray:=(cutL c s.data.toList).map fun l=>⟨l.toArray⟩
theorem join_cut (c:UInt8):∀ {xs:List (List UInt8)},xs≠[]→(∀ x∈xs,c ∉ x)→cutL c (Lib.join xs [c])=xs
 |[],h,_=>absurd rfl h
 |[x],_,h=>by rw [Lib.join_one,cutL_none (h x List.mem_cons_self)]
 |x :: y :: r,_,h=>by
  have e:Lib.join (x :: y :: r) [c]=x ++ c :: Lib.join (y :: r) [c]:=by
   unfold Lib.join List.intercalate
   rw [List.intersperse_cons_cons,List.flatten_cons,List.flatten_cons]
   rfl
  rw [e,cutL_hit (h x List.mem_cons_self),join_cut c (List.cons_ne_nil _ _) fun z hz=>h z (List.mem_cons_of_mem _ hz)]
theorem joinB_cut {c:UInt8} {xs:List ByteArray} (h:xs≠[]) (hc:∀ x∈xs,c ∉ x.data.toList):cutB (joinB xs ⟨#[c]⟩) c=xs:=by
 have e:cutL c (Lib.join (xs.map (·.data.toList)) [c])=xs.map (·.data.toList):=join_cut c (fun e=>h (List.map_eq_nil_iff.1 e)) fun x hx=>by
  obtain ⟨y,hy,rfl⟩:=List.mem_map.1 hx
  exact hc y hy
 show (cutL c (Lib.join (xs.map (·.data.toList)) [c])).map _=_
 rw [e,List.map_map]
 exact List.map_id _
end Go.Proofs.YtgdbhjmpkkbnnaaGreatDoor.Vc
end
section
/- Part UB: strings.Split, strconv.Atoi, and what reads by them. -/
namespace Go.Proofs.YtgdbhjmpkkbnnaaGreatDoor.Vc
open Go.Proofs Go.RowKit Go.Sort
set_option maxRecDepth 10000
set_option maxHeartbeats 4000000
end Go.Proofs.YtgdbhjmpkkbnnaaGreatDoor.Vc
end
section
/- Part UC: numbers and cuts, by both sides. -/
namespace Go.Proofs.YtgdbhjmpkkbnnaaGreatDoor.Vc
open Go.Proofs
set_option maxRecDepth 10000
set_option maxHeartbeats 4000000
/-! ### The reference's cut -/
/-! ### The reference's digits -/
end Go.Proofs.YtgdbhjmpkkbnnaaGreatDoor.Vc
end
section
/- Part UD: what a place's text is cut into. -/
namespace Go.Proofs.YtgdbhjmpkkbnnaaGreatDoor.Vc
open Go.Proofs
set_option maxRecDepth 10000
set_option maxHeartbeats 4000000
def visB (s:ByteArray):Prop:=∀ b∈s.data.toList,33≤b.toNat
theorem vis_app {a b:ByteArray} (ha:visB a) (hb:visB b):visB (a ++ b):=fun x hx=>by
 rw [ByteArray.data_append,Array.toList_append] at hx
 exact (List.mem_append.1 hx).elim (ha x) (hb x)
theorem vis_num {n:Int} (h:0≤n):visB (num n):=fun b hb=>by
 obtain ⟨k,rfl⟩:∃ k:Nat,n=k:=⟨n.toNat,by omega⟩
 rw [num_list] at hb
 have:=dec_dig k b hb
 unfold digB at this
 omega
theorem vis_one {k:UInt8} (h:33≤k.toNat):visB ⟨#[k]⟩:=fun b hb=>by
 rw [List.mem_singleton.1 hb]; exact h
theorem vis_wrap {s:ByteArray} {b:Bool} (h:visB s):visB (wrapT s b):=by
 unfold wrapT
 split
 ·exact vis_app (vis_app (vis_one (by decide)) h) (vis_one (by decide))
 ·exact h
theorem vis_letter {a:Int} (h0:0≤a) (h:a<8):visB (letter a):=vis_one (by
 rw [UInt8.toNat_ofNat',Nat.mod_eq_of_lt (by omega)]
 omega)
theorem vis_join {k:Int} {a b:Pt} (ha:visB a.s) (hb:visB b.s):visB (join2 k a b).s:=by
 unfold join2
 split
 ·exact vis_app (vis_app ha (vis_one (by decide))) (vis_wrap hb)
 ·exact vis_app (vis_app (vis_wrap ha) (vis_one (by decide))) (vis_wrap hb)
def okM (m:Mark):Prop:=m.kind=0→(0≤m.at_∧m.at_<8)∧0≤m.need
theorem vis_step {m:Mark} {st:List Pt} (hm:okM m) (h:∀ p∈st,visB p.s):∀ p∈stepT m st,visB p.s:=by
 unfold stepT
 split
 ·rename_i e
  have:=hm e
  intro p hp
  rcases List.mem_cons.1 hp with rfl|hp
  ·exact vis_app (vis_letter this.1.1 this.1.2) (vis_num this.2)
  ·exact h p hp
 ·match st,h with
  |[],h=>exact h
  |[a],h=>exact h
  |b :: a :: r,h =>
   intro p hp
   rcases List.mem_cons.1 hp with rfl|hp
   ·exact vis_join (h a (List.mem_cons_of_mem _ List.mem_cons_self)) (h b List.mem_cons_self)
   ·exact h p (List.mem_cons_of_mem _ (List.mem_cons_of_mem _ hp))
theorem vis_run:∀ {t:List Mark} {st:List Pt},(∀ m∈t,okM m)→(∀ p∈st,visB p.s)→∀ p∈runT t st,visB p.s
 |[],_,_,h=>h
 |m :: t,_,hm,h=>vis_run (t:=t) (fun x hx=>hm x (List.mem_cons_of_mem _ hx)) (vis_step (hm m List.mem_cons_self) h)
theorem walk_marks {bs:List Int} (hl:bs.length≤8):∀ {t:List Mark} {k j:Nat},walkP bs t k=some j→∀ m∈t,okM m
 |[],_,_,_,m,hm=>by cases hm
 |x :: t,k,j,h,m,hm=>by
  simp only [walkP] at h
  cases e:stepP bs x k with
  |none=>rw [e] at h; cases h
  |some i =>
   rw [e] at h
   rcases List.mem_cons.1 hm with rfl|hm
   ·intro hk
    unfold stepP at e
    split at e
    ·rename_i g
     exact ⟨⟨g.2.1,by omega⟩,by omega⟩
    ·rename_i g
     split at e
     ·rename_i g2
      omega
     ·cases e
   ·exact walk_marks hl (t:=t) (k:=i) (j:=j) h m hm
theorem vis_term {h:House} {t:List Mark} (ht:termOk h t):visB (textT t):=by
 have h1:=vis_run (t:=t) (st:=[]) (walk_marks (Nat.le_trans ht.1.2.1 (by decide)) ht.2.2) (fun _ q=>by cases q)
 unfold textT partT
 cases e:runT t [] with
 |nil=>intro b hb; cases hb
 |cons p r=>rw [e] at h1; exact h1 p List.mem_cons_self
theorem vis_rule {h:House} {r:ByteArray} (e:bad h r=false):visB r:=by
 obtain ⟨t,ht⟩:=bad_term e
 obtain ⟨_,g2,g3⟩:=(rdT_iff (by decide)).1 ht
 rw [← g3]
 exact vis_term g2
theorem vis_joinB {s:ByteArray} (hs:visB s):∀ {l:List ByteArray},(∀ x∈l,visB x)→visB (joinB l s):=by
 intro l h b hb
 have hb':b∈Lib.join (l.map (·.data.toList)) s.data.toList:=hb
 have key:∀ (l:List (List UInt8)),b∈Lib.join l s.data.toList→b∈s.data.toList∨∃ x∈l,b∈x:=by
  intro l
  induction l with
  |nil=>intro q; cases q
  |cons x l ih =>
   cases l with
   |nil=>rw [Lib.join_one]; exact fun q=>.inr ⟨x,List.mem_cons_self,q⟩
   |cons y r =>
    have e:Lib.join (x :: y :: r) s.data.toList=x ++ (s.data.toList ++ Lib.join (y :: r) s.data.toList):=by
     unfold Lib.join List.intercalate
     rw [List.intersperse_cons_cons,List.flatten_cons,List.flatten_cons]
    rw [e]
    intro q
    rcases List.mem_append.1 q with q|q
    ·exact .inr ⟨x,List.mem_cons_self,q⟩
    ·rcases List.mem_append.1 q with q|q
     ·exact .inl q
     ·exact (ih q).imp id fun ⟨z,hz,hq⟩=>⟨z,List.mem_cons_of_mem _ hz,hq⟩
 rcases key _ hb' with q|⟨x,hx,q⟩
 ·exact hs b q
 ·obtain ⟨y,hy,rfl⟩:=List.mem_map.1 hx
  exact h y hy b q
theorem vis_no {s:ByteArray} (h:visB s) {c:UInt8} (hc:c.toNat<33):c ∉ s.data.toList:=fun q=>by have:=h c q; omega
theorem num_nocomma {n:Int} (h:0≤n):(44:UInt8) ∉ (num n).data.toList:=fun q=>by
 obtain ⟨k,rfl⟩:∃ k:Nat,n=k:=⟨n.toNat,by omega⟩
 rw [num_list] at q
 have:=dec_dig k _ q
 unfold digB at this
 have h44:(44:UInt8).toNat=44:=rfl
 omega
theorem cut_listT {l:List Int} (h:smallL l) (hne:l≠[]):cutB (listT l) 44=l.map num:=joinB_cut (c:=44) (fun e=>hne (List.map_eq_nil_iff.1 e)) fun x hx=>by
 obtain ⟨n,hn,rfl⟩:=List.mem_map.1 hx
 exact num_nocomma (h.2 n hn).1
theorem cut_plT {x:Place} (h:placeOk x):cutB (plT x) 32=num x.p :: listT x.bs :: x.rules:=joinB_cut (c:=32) (List.cons_ne_nil _ _) fun y hy=>by
 obtain ⟨g1,g2,g3,g4⟩:=placeOk_small h
 refine vis_no ?_ (by decide)
 rcases List.mem_cons.1 hy with rfl|hy
 ·exact vis_num g2
 ·rcases List.mem_cons.1 hy with rfl|hy
  ·exact vis_joinB (vis_one (by decide)) fun z hz=>by
    obtain ⟨n,hn,rfl⟩:=List.mem_map.1 hz
    exact vis_num (g1.2 n hn).1
  ·exact vis_rule (h.2.2 y hy)
theorem num_inj {m:Nat} {n:Int} (h0:0≤n) (h:num (m:Int)=num n):(m:Int)=n:=by
 obtain ⟨k,rfl⟩:∃ k:Nat,n=k:=⟨n.toNat,by omega⟩
 have:=num_val m
 rw [h,num_val] at this
 rw [this]
theorem plT_inj {x y:Place} (hx:placeOk x) (hy:placeOk y) (h:plT x=plT y):x=y:=by
 have e:=cut_plT hx
 rw [h,cut_plT hy] at e
 obtain ⟨x1,x2,x3⟩:=x
 obtain ⟨y1,y2,y3⟩:=y
 have sx:=placeOk_small hx
 have sy:=placeOk_small hy
 injection e with e1 e2
 injection e2 with e2 e3
 have nx:=placeOk_bs hx
 have ny:=placeOk_bs hy
 dsimp only at e1 e2 e3 sx sy nx ny
 have h1:x1=y1:=by
  obtain ⟨k,rfl⟩:∃ k:Nat,y1=k:=⟨y1.toNat,by omega⟩
  exact (num_inj sx.2.1 e1).symm
 have e4:=cut_listT sx.1 nx
 rw [← e2,cut_listT sy.1 ny] at e4
 have h2:x2=y2:=by
  have key:∀ (a b:List Int),(∀ n∈a,0≤n)→(∀ n∈b,0≤n)→a.map num=b.map num→a=b:=by
   intro a
   induction a with
   |nil=>intro b _ _ e; cases b with|nil=>rfl|cons=>cases e
   |cons n a ih =>
    intro b ha hb e
    cases b with
    |nil=>cases e
    |cons m b =>
     rw [List.map_cons,List.map_cons] at e
     injection e with e1 e2
     obtain ⟨k,rfl⟩:∃ k:Nat,n=k:=⟨n.toNat,by have:=ha n List.mem_cons_self; omega⟩
     rw [num_inj (hb m List.mem_cons_self) e1,ih b (fun z hz=>ha z (List.mem_cons_of_mem _ hz)) (fun z hz=>hb z (List.mem_cons_of_mem _ hz)) e2]
  exact (key _ _ (fun n hn=>(sy.1.2 n hn).1) (fun n hn=>(sx.1.2 n hn).1) e4).symm
 rw [h1,h2,e3]
end Go.Proofs.YtgdbhjmpkkbnnaaGreatDoor.Vc
end
section
/- Part DF: the texts of journals. -/
namespace Go.Proofs.YtgdbhjmpkkbnnaaGreatDoor.Vc
open Go.Proofs
set_option maxRecDepth 10000
set_option maxHeartbeats 4000000
def C111:List AV→(AV→Prop)→Prop:=con (X:=List Dd × Int) (fun x=>[slD x.1,.int .i64 x.2]) (fun x=>x.1.length<9223372036854775808∧(∀ d∈x.1,d.words.size<9223372036854775808)∧0≤x.2∧x.2≤9223372036854775807)
 fun x K=>∀ r:Int,(0≤r→(x.1.length:Int)+wsum x.1 x.1.length≤x.2)→K (.int .i64 r)
theorem F111:FF 26 C111:=by
 refine fitE [(22,C107)] (by simp only [List.mem_cons,List.not_mem_nil,or_false]; rintro _ rfl; exact F107) Tryz.f26 ⟨rfl,by decide +kernel,by decide +kernel⟩ (fun _ _ _ hk h r hr=>hk _ (h r hr)) ?_
 rintro ⟨l,n⟩ K ⟨h1,h2,h3,h4⟩ h
 refine ⟨Nat.le_of_ble_eq_true rfl,?_⟩
 dsimp only at h1 h2 h3 h4 h ⊢
 repeat' (first|refine vz ?_|(conv=>whnf); first|with_reducible first|refine Sp.mk ?_ ?_|refine br_d (fun _=>?_) fun _=>?_|refine vM (fun _=>?_) fun _=>?_)
 ·exact h _ (fun h0=>absurd h0 (by decide))
 ·refine Lp.mk ⟨Nat,fun i=>[(0,slD l),(1,.int .i64 (n-l.length-wsum l i)),(5,.int .i64 i)],fun i=>[],fun i=>i≤l.length∧0≤n-l.length-wsum l i,fun i=>l.length-i,⟨0,⟨Nat.zero_le _,by show 0≤n-l.length-((0:Nat):Int); omega⟩,⟨⟨[],[],rfl,rfl,?_,?_⟩⟩⟩,?_⟩
  ·repeat' ((conv=>whnf); first|with_reducible exact True.intro|exact vW|with_reducible refine And.intro ?_ ?_)
   all_goals exact Chk.mk (by show _-((0:Nat):Int)=_; omega)
  ·exact wq
  intro i ⟨i1,i2⟩
  dsimp only
  repeat' (first|refine vz ?_|(conv=>whnf); first|with_reducible first|refine Sp.mk ?_ ?_|refine br_d (fun _=>?_) fun _=>?_|refine vM (fun _=>?_) fun _=>?_)
  ·rename_i hi
   have hi':i<l.length:=by omega
   have hw:=h2 _ (show l.getD i default∈l by rw [List.getD_eq_getElem?_getD,List.getElem?_eq_getElem hi']; exact List.getElem_mem hi')
   have e:wsum l (i+1)=wsum l i+(l.getD i default).words.size:=rfl
   refine ⟨(l.getD i default,n-l.length-wsum l i),?_,⟨hw,by dsimp only; omega,by dsimp only; omega⟩,?_⟩
   ·exact wq
   dsimp only
   by_cases hn:n-l.length-wsum l i-(l.getD i default).words.size<0
   ·rw [if_pos hn]
    repeat' (first|refine vz ?_|(conv=>whnf); first|with_reducible first|refine Sp.mk ?_ ?_|refine br_d (fun _=>?_) fun _=>?_|refine vM (fun _=>?_) fun _=>?_)
    exact h _ (fun h0=>absurd h0 (by decide))
   ·rw [if_neg hn]
    repeat' (first|refine vz ?_|(conv=>whnf); first|with_reducible first|refine Sp.mk ?_ ?_|refine br_d (fun _=>?_) fun _=>?_|refine vM (fun _=>?_) fun _=>?_)
    refine ⟨i+1,⟨by omega,by omega⟩,by omega,⟨⟨[],[],rfl,rfl,?_,?_⟩⟩⟩
    ·repeat' ((conv=>whnf); first|with_reducible exact True.intro|exact vW|with_reducible refine And.intro ?_ ?_)
     all_goals exact Chk.mk (by omega)
    ·exact wq
  ·obtain rfl:i=l.length:=by omega
   exact h _ (fun h0=>by omega)
def jOk (l:List Dd):Prop:=l.length+wsum l l.length≤1048576
end Go.Proofs.YtgdbhjmpkkbnnaaGreatDoor.Vc
end
section
/- Part XA: deeds and journals that are read: the plain law. -/
namespace Go.Proofs.YtgdbhjmpkkbnnaaGreatDoor.Vc
open Go.Proofs
set_option maxRecDepth 10000
set_option maxHeartbeats 4000000
/-! ### Deeds that have a text -/
def kindB (k:Int):ByteArray:=if k=0 then ⟨#[98,111,100,121]⟩ else if k=1 then ⟨#[114,117,108,101]⟩ else if k=2 then ⟨#[97,109,101,110,100]⟩ else if k=3 then ⟨#[100,114,111,112]⟩ else ⟨#[98,97,99,107]⟩
def numsOf (x:Dd):List Int:=if x.kind=0 then [x.a] else if x.kind=2∨x.kind=3 then [x.a,x.b] else []
def wordsOf (x:Dd):List ByteArray:=if x.words=⟨#[]⟩ then [] else [x.words]
structure okDd (x:Dd):Prop where
 a:0≤x.a∧x.a≤99
 b:0≤x.b∧x.b≤99
 k:(x.kind=0∧x.b=0∧x.words=⟨#[]⟩)∨(x.kind=1∧x.a=0∧x.b=0∧plainW x.words=true)∨(x.kind=2∧plainW x.words=true)∨(x.kind=3∧x.words=⟨#[]⟩)∨(x.kind=4∧x.a=0∧x.b=0∧x.words=⟨#[]⟩)
theorem plainW_no {w:ByteArray} (h:plainW w=true):w≠⟨#[]⟩∧(32:UInt8) ∉ w.data.toList∧(10:UInt8) ∉ w.data.toList:=by
 unfold plainW spc at h
 rw [containsAny_eq] at h
 simp only [Bool.and_eq_true,decide_eq_true_eq,Bool.not_eq_true',List.any_eq_false] at h
 exact ⟨h.1,fun q=>h.2 32 q rfl,fun q=>h.2 10 q rfl⟩
theorem joinB_three (x y z sep:ByteArray):joinB [x,y,z] sep=x ++ sep ++ y ++ sep ++ z:=by
 have:=joinB_app (l:=[x,y]) (x:=z) (sep:=sep) (by simp)
 rwa [joinB_two] at this
theorem joinB_four (x y z u sep:ByteArray):joinB [x,y,z,u] sep=x ++ sep ++ y ++ sep ++ z ++ sep ++ u:=by
 have:=joinB_app (l:=[x,y,z]) (x:=u) (sep:=sep) (by simp)
 rwa [joinB_three] at this
theorem deedT_ok {x:Dd} (h:okDd x):deedT x=joinB (kindB x.kind :: ((numsOf x).map num ++ wordsOf x)) space:=by
 obtain ⟨k,a,b,w⟩:=x
 obtain ⟨ha,hb,hk⟩:=h
 dsimp only at ha hb hk
 unfold deedT
 dsimp only
 rw [if_neg (by omega)]
 rcases hk with ⟨rfl,rfl,rfl⟩|⟨rfl,rfl,rfl,hw⟩|⟨rfl,hw⟩|⟨rfl,rfl⟩|⟨rfl,rfl,rfl,rfl⟩
 ·rw [if_pos ⟨rfl,rfl,rfl⟩]
  show (⟨#[98,111,100,121,32]⟩ ++ num a:ByteArray)=joinB [kindB 0,num a] space
  rw [joinB_two,show kindB 0 ++ space=⟨#[98,111,100,121,32]⟩ from rfl]
 ·have:=(plainW_no hw).1
  rw [if_neg (by omega),if_pos ⟨rfl,rfl,rfl,hw⟩]
  unfold wordsOf
  rw [if_neg this]
  show (⟨#[114,117,108,101,32]⟩ ++ w:ByteArray)=joinB [kindB 1,w] space
  rw [joinB_two,show kindB 1 ++ space=⟨#[114,117,108,101,32]⟩ from rfl]
 ·have:=(plainW_no hw).1
  rw [if_neg (by omega),if_neg (by omega),if_pos ⟨rfl,hw⟩]
  unfold wordsOf
  rw [if_neg this]
  show (⟨#[97,109,101,110,100,32]⟩ ++ num a ++ ⟨#[32]⟩ ++ num b ++ ⟨#[32]⟩ ++ w:ByteArray)=joinB [kindB 2,num a,num b,w] space
  rw [joinB_four,show kindB 2 ++ space=⟨#[97,109,101,110,100,32]⟩ from rfl]
  rfl
 ·rw [if_neg (by omega),if_neg (by omega),if_neg (by omega),if_pos ⟨rfl,rfl⟩]
  show (⟨#[100,114,111,112,32]⟩ ++ num a ++ ⟨#[32]⟩ ++ num b:ByteArray)=joinB [kindB 3,num a,num b] space
  rw [joinB_three,show kindB 3 ++ space=⟨#[100,114,111,112,32]⟩ from rfl]
  rfl
 ·rw [if_neg (by omega),if_neg (by omega),if_neg (by omega),if_neg (by omega),if_pos ⟨rfl,rfl,rfl,rfl⟩]
  rfl
theorem deedT_no {x:Dd} (h:¬ okDd x):deedT x=⟨#[]⟩:=by
 unfold deedT
 split
 ·rfl
 ·rename_i hr
  have ha:0≤x.a∧x.a≤99:=by omega
  have hb:0≤x.b∧x.b≤99:=by omega
  rw [if_neg fun q=>h ⟨ha,hb,.inl q⟩,if_neg fun q=>h ⟨ha,hb,.inr (.inl q)⟩,if_neg fun q=>h ⟨ha,hb,.inr (.inr (.inl q))⟩,if_neg fun q=>h ⟨ha,hb,.inr (.inr (.inr (.inl q)))⟩,if_neg fun q=>h ⟨ha,hb,.inr (.inr (.inr (.inr q)))⟩]
theorem kindB_no (k:Int):(32:UInt8) ∉ (kindB k).data.toList∧(10:UInt8) ∉ (kindB k).data.toList∧(kindB k).size≠0:=by
 unfold kindB
 (repeat' split) <;> decide
theorem num_no32 {n:Int} (h:0≤n):(32:UInt8) ∉ (num n).data.toList∧(10:UInt8) ∉ (num n).data.toList:=⟨vis_no (vis_num h) (by decide),vis_no (vis_num h) (by decide)⟩
theorem numsOf_mem {x:Dd} (h:okDd x):∀ n∈numsOf x,0≤n∧n≤99:=by
 unfold numsOf
 intro n hn
 split at hn
 ·rw [List.mem_singleton.1 hn]; exact h.a
 ·split at hn
  ·rcases List.mem_cons.1 hn with rfl|hn
   ·exact h.a
   ·rw [List.mem_singleton.1 hn]; exact h.b
  ·cases hn
theorem okDd_plain {x:Dd} (h:okDd x):x.words=⟨#[]⟩∨plainW x.words=true:=by
 rcases h.k with q|q|q|q|q
 ·exact .inl q.2.2
 ·exact .inr q.2.2.2
 ·exact .inr q.2
 ·exact .inl q.2
 ·exact .inl q.2.2.2
theorem parts_no {x:Dd} (h:okDd x):∀ y∈kindB x.kind :: ((numsOf x).map num ++ wordsOf x),(32:UInt8) ∉ y.data.toList∧(10:UInt8) ∉ y.data.toList:=by
 intro y hy
 rcases List.mem_cons.1 hy with rfl|hy
 ·exact ⟨(kindB_no _).1,(kindB_no _).2.1⟩
 ·rcases List.mem_append.1 hy with hy|hy
  ·obtain ⟨n,hn,rfl⟩:=List.mem_map.1 hy
   exact num_no32 (numsOf_mem h n hn).1
  ·unfold wordsOf at hy
   split at hy
   ·cases hy
   ·rename_i hw
    rw [List.mem_singleton.1 hy]
    have:=plainW_no ((okDd_plain h).resolve_left hw)
    exact this.2
theorem cut_deed {x:Dd} (h:okDd x):cutB (deedT x) 32=kindB x.kind :: ((numsOf x).map num ++ wordsOf x):=by
 rw [deedT_ok h]
 exact joinB_cut (c:=32) (List.cons_ne_nil _ _) fun y hy=>(parts_no h y hy).1
theorem mem_join {b:UInt8} {s:List UInt8}:∀ (l:List (List UInt8)),b∈Lib.join l s→b∈s∨∃ x∈l,b∈x:=by
 intro l
 induction l with
 |nil=>intro q; cases q
 |cons x l ih =>
  cases l with
  |nil=>rw [Lib.join_one]; exact fun q=>.inr ⟨x,List.mem_cons_self,q⟩
  |cons y r =>
   have e:Lib.join (x :: y :: r) s=x ++ (s ++ Lib.join (y :: r) s):=by
    unfold Lib.join List.intercalate
    rw [List.intersperse_cons_cons,List.flatten_cons,List.flatten_cons]
   rw [e]
   intro q
   rcases List.mem_append.1 q with q|q
   ·exact .inr ⟨x,List.mem_cons_self,q⟩
   ·rcases List.mem_append.1 q with q|q
    ·exact .inl q
    ·exact (ih q).imp id fun ⟨z,hz,hq⟩=>⟨z,List.mem_cons_of_mem _ hz,hq⟩
theorem deed_nl (x:Dd):(10:UInt8) ∉ (deedT x).data.toList:=by
 by_cases h:okDd x
 ·rw [deedT_ok h]
  intro q
  have q':(10:UInt8)∈Lib.join ((kindB x.kind :: ((numsOf x).map num ++ wordsOf x)).map (·.data.toList)) space.data.toList:=q
  rcases mem_join _ q' with q|⟨y,hy,q⟩
  ·have:(10:UInt8) ∉ space.data.toList:=by decide
   exact this q
  ·obtain ⟨z,hz,rfl⟩:=List.mem_map.1 hy
   exact (parts_no h z hz).2 q
 ·rw [deedT_no h]
  intro q
  cases q
theorem kindB_inj {j k:Int} (hj:0≤j∧j≤4) (hk:0≤k∧k≤4) (h:kindB j=kindB k):j=k:=by
 rcases (show j=0∨j=1∨j=2∨j=3∨j=4 by omega) with rfl|rfl|rfl|rfl|rfl <;> rcases (show k=0∨k=1∨k=2∨k=3∨k=4 by omega) with rfl|rfl|rfl|rfl|rfl <;> first|rfl|exact absurd h (by decide)
theorem okDd_kind {x:Dd} (h:okDd x):0≤x.kind∧x.kind≤4:=by
 rcases h.k with q|q|q|q|q <;> omega
theorem num_inj' {m n:Int} (hm:0≤m) (hn:0≤n) (h:num m=num n):m=n:=by
 obtain ⟨k,rfl⟩:∃ k:Nat,m=k:=⟨m.toNat,by omega⟩
 exact num_inj hn h
theorem deed_inj {x y:Dd} (hx:okDd x) (hy:okDd y) (h:deedT x=deedT y):x=y:=by
 have e:=cut_deed hx
 rw [h,cut_deed hy] at e
 injection e with e1 e2
 have e1:=kindB_inj (okDd_kind hy) (okDd_kind hx) e1
 have kx:=hx.k
 have ky:=hy.k
 have ax:=hx.a
 have ay:=hy.a
 have bx:=hx.b
 have by':=hy.b
 obtain ⟨k,a,b,w⟩:=x
 obtain ⟨k',a',b',w'⟩:=y
 dsimp only at e1 kx ky ax ay bx by' e2
 subst e1
 have pw:∀ {w:ByteArray},plainW w=true→wordsOf ⟨k',a,b,w⟩=[w]:=fun h=>if_neg (plainW_no h).1
 have pw':∀ {w:ByteArray},plainW w=true→wordsOf ⟨k',a',b',w⟩=[w]:=fun h=>if_neg (plainW_no h).1
 rcases kx with ⟨rfl,q1,q2⟩|⟨rfl,q1,q2,q3⟩|⟨rfl,q1⟩|⟨rfl,q1⟩|⟨rfl,q1,q2,q3⟩
 ·rcases ky with ⟨_,r1,r2⟩|⟨r,_⟩|⟨r,_⟩|⟨r,_⟩|⟨r,_⟩ <;> first|exact absurd r (by decide)|skip
  subst q1 q2 r1 r2
  have e3:[num a']=[num a]:=e2
  injection e3 with e3 _
  rw [num_inj' ax.1 ay.1 e3.symm]
 ·rcases ky with ⟨r,_⟩|⟨_,r1,r2,r3⟩|⟨r,_⟩|⟨r,_⟩|⟨r,_⟩ <;> first|exact absurd r (by decide)|skip
  subst q1 q2 r1 r2
  rw [pw q3,pw' r3] at e2
  have e3:[w']=[w]:=e2
  injection e3 with e3 _
  rw [e3]
 ·rcases ky with ⟨r,_⟩|⟨r,_⟩|⟨_,r1⟩|⟨r,_⟩|⟨r,_⟩ <;> first|exact absurd r (by decide)|skip
  rw [pw q1,pw' r1] at e2
  have e3:[num a',num b',w']=[num a,num b,w]:=e2
  injection e3 with e3 e4
  injection e4 with e4 e5
  injection e5 with e5 _
  rw [num_inj' ax.1 ay.1 e3.symm,num_inj' bx.1 by'.1 e4.symm,e5]
 ·rcases ky with ⟨r,_⟩|⟨r,_⟩|⟨r,_⟩|⟨_,r1⟩|⟨r,_⟩ <;> first|exact absurd r (by decide)|skip
  subst q1 r1
  have e3:[num a',num b']=[num a,num b]:=e2
  injection e3 with e3 e4
  injection e4 with e4 _
  rw [num_inj' ax.1 ay.1 e3.symm,num_inj' bx.1 by'.1 e4.symm]
 ·rcases ky with ⟨r,_⟩|⟨r,_⟩|⟨r,_⟩|⟨r,_⟩|⟨_,r1,r2,r3⟩ <;> first|exact absurd r (by decide)|skip
  subst q1 q2 q3 r1 r2 r3
  rfl
/-! ### What a text tells -/
def isDd (s:ByteArray) (x:Dd):Prop:=okDd x∧deedT x=s
def ddPost (s:ByteArray) (K:AV→Prop):Prop:=(∀ x,isDd s x→K (.tup [ded x,.bool true]))∧((¬ ∃ x,isDd s x)→K (.tup [ded default,.bool false]))
theorem ddPost.mono {s:ByteArray} {K K2:AV→Prop} (hk:∀ r,K r→K2 r) (h:ddPost s K):ddPost s K2:=⟨fun x q=>hk _ (h.1 x q),fun q=>hk _ (h.2 q)⟩
/-! ### Journals -/
def lineL (x:Dd):List UInt8:=(deedT x).data.toList ++ [10]
def jl:List Dd→List UInt8
 |[]=>[]
 |x :: l=>lineL x ++ jl l
theorem jl_app (l m:List Dd):jl (l ++ m)=jl l ++ jl m:=by
 induction l with
 |nil=>rfl
 |cons x l ih=>show lineL x ++ jl (l ++ m)=lineL x ++ jl l ++ jl m; rw [ih,List.append_assoc]
theorem jl_one (x:Dd):jl [x]=lineL x:=List.append_nil _
structure isJr (s:List UInt8) (l:List Dd) (r:List UInt8):Prop where
 ok:∀ x∈l,okDd x
 eq:s=jl l ++ r
 stop:∀ x t,okDd x→r≠lineL x ++ t
theorem first_inj {c:UInt8}:∀ {p q t u:List UInt8},c ∉ p→c ∉ q→p ++ c :: t=q ++ c :: u→p=q∧t=u
 |[],[],t,u,_,_,h=>⟨rfl,by injection h⟩
 |[],b :: q,t,u,_,hq,h=>by
  injection h with h1 _
  exact absurd (h1 ▸ List.mem_cons_self) hq
 |a :: p,[],t,u,hp,_,h=>by
  injection h with h1 _
  exact absurd (h1 ▸ List.mem_cons_self) hp
 |a :: p,b :: q,t,u,hp,hq,h=>by
  injection h with h1 h2
  obtain ⟨e1,e2⟩:=first_inj (fun k=>hp (List.mem_cons_of_mem _ k)) (fun k=>hq (List.mem_cons_of_mem _ k)) h2
  exact ⟨by rw [h1,e1],e2⟩
theorem bytes_inj {s t:ByteArray} (h:s.data.toList=t.data.toList):s=t:=ByteArray.ext (Array.toList_inj.1 h)
theorem line_inj {x y:Dd} {t u:List UInt8} (hx:okDd x) (hy:okDd y) (h:lineL x ++ t=lineL y ++ u):x=y∧t=u:=by
 unfold lineL at h
 rw [List.append_assoc,List.append_assoc] at h
 obtain ⟨e1,e2⟩:=first_inj (deed_nl x) (deed_nl y) h
 exact ⟨deed_inj hx hy (bytes_inj e1),e2⟩
theorem isJr.cons {s:List UInt8} {l:List Dd} {r:List UInt8} {x:Dd} (hx:okDd x) (h:isJr s l r):isJr (lineL x ++ s) (x :: l) r :=
 ⟨fun y hy=>(List.mem_cons.1 hy).elim (fun e=>e ▸ hx) (h.ok y),by rw [h.eq]; exact (List.append_assoc ..).symm,h.stop⟩
theorem isJr.tail {s:List UInt8} {l:List Dd} {r:List UInt8} {x:Dd} (h:isJr (lineL x ++ s) (x :: l) r):isJr s l r :=
 ⟨fun y hy=>h.ok y (List.mem_cons_of_mem _ hy),by
  have:=h.eq
  rw [show jl (x :: l)=lineL x ++ jl l from rfl,List.append_assoc] at this
  exact List.append_cancel_left this,h.stop⟩
theorem isJr_one:∀ {l m:List Dd} {s r t:List UInt8},isJr s l r→isJr s m t→l=m∧r=t
 |[],[],s,r,t,h,g=>⟨rfl,by have:=h.eq; rw [g.eq] at this; exact this.symm⟩
 |[],y :: m,s,r,t,h,g=>by
  have e:r=lineL y ++ (jl m ++ t):=by
   have:=h.eq
   rw [g.eq] at this
   exact this.symm.trans (List.append_assoc ..)
  exact absurd e (h.stop y _ (g.ok y List.mem_cons_self))
 |x :: l,[],s,r,t,h,g=>by
  have e:t=lineL x ++ (jl l ++ r):=by
   have:=g.eq
   rw [h.eq] at this
   exact this.symm.trans (List.append_assoc ..)
  exact absurd e (g.stop x _ (h.ok x List.mem_cons_self))
 |x :: l,y :: m,s,r,t,h,g=>by
  have e:lineL x ++ (jl l ++ r)=lineL y ++ (jl m ++ t):=by
   have:=h.eq
   rw [g.eq] at this
   exact (List.append_assoc ..).symm.trans (this.symm.trans (List.append_assoc ..))
  obtain ⟨rfl,e2⟩:=line_inj (h.ok x List.mem_cons_self) (g.ok y List.mem_cons_self) e
  have h':isJr (jl l ++ r) l r:=⟨fun z hz=>h.ok z (List.mem_cons_of_mem _ hz),rfl,h.stop⟩
  have g':isJr (jl l ++ r) m t:=⟨fun z hz=>g.ok z (List.mem_cons_of_mem _ hz),e2,g.stop⟩
  obtain ⟨rfl,rfl⟩:=isJr_one h' g'
  exact ⟨rfl,rfl⟩
theorem isJr_ex:∀ (n:Nat) (s:List UInt8),s.length≤n→∃ l r,isJr s l r
 |n,s,hn=>by
  by_cases h:∃ x t,okDd x∧s=lineL x ++ t
  ·obtain ⟨x,t,hx,rfl⟩:=h
   cases n with
   |zero=>simp [lineL] at hn
   |succ n =>
    obtain ⟨l,r,g⟩:=isJr_ex n t (by simp [lineL] at hn; omega)
    exact ⟨x :: l,r,g.cons hx⟩
  ·exact ⟨[],s,fun _ q=>(by cases q),rfl,fun x t hx e=>h ⟨x,t,hx,e⟩⟩
theorem jr_has (s:ByteArray):∃ l r,isJr s.data.toList l r:=isJr_ex _ _ (Nat.le_refl _)
noncomputable def jr (s:ByteArray):List Dd:=Classical.choose (jr_has s)
noncomputable def jn (s:ByteArray):Nat:=(jl (jr s)).length
theorem jr_spec (s:ByteArray):∃ r,isJr s.data.toList (jr s) r:=Classical.choose_spec (jr_has s)
theorem jr_of {s:ByteArray} {l:List Dd} {r:List UInt8} (h:isJr s.data.toList l r):jr s=l∧jn s=(jl l).length:=by
 obtain ⟨t,ht⟩:=jr_spec s
 obtain ⟨e,_⟩:=isJr_one ht h
 exact ⟨e,by unfold jn; rw [e]⟩
theorem line_len (x:Dd):(lineL x).length=(deedT x).size+1:=by
 unfold lineL
 rw [List.length_append,Array.length_toList]
 rfl
end Go.Proofs.YtgdbhjmpkkbnnaaGreatDoor.Vc
end
section
/- Part XB: deeds at a desk, one after the other: the plain law. -/
namespace Go.Proofs.YtgdbhjmpkkbnnaaGreatDoor.Vc
open Go.Proofs
set_option maxRecDepth 10000
set_option maxHeartbeats 4000000
theorem pushP_mem {l:List Place} {x:Place}:∀ p∈pushP l x,p∈l∨p=x:=by
 unfold pushP
 intro p hp
 split at hp
 ·exact (List.mem_append.1 (List.mem_of_mem_drop hp)).imp id fun h=>List.mem_singleton.1 h
 ·exact (List.mem_append.1 hp).imp id fun h=>List.mem_singleton.1 h
theorem pushP_len {l:List Place} {x:Place} (h:l.length≤8):(pushP l x).length≤8:=by
 unfold pushP
 split
 ·rw [List.length_drop,List.length_append]
  show l.length+1-1≤8
  omega
 ·omega
theorem doD_ok {d e:Desk} {a:Dd} (hO:deskOk d) (he:doD d a=some e):deskOk e:=by
 unfold doD at he
 split at he
 ·rename_i g
  cases he
  have m:d.past.getD (d.past.length-1) default∈d.past:=getD_mem' (by omega)
  refine ⟨hO.2.2 _ m,?_,fun p hp=>hO.2.2 p (List.mem_of_mem_take hp)⟩
  have:=hO.2.1
  dsimp only
  rw [List.length_take]
  omega
 ·split at he
  ·rename_i g
   cases he
   exact ⟨g.1,pushP_len hO.2.1,fun p hp=>(pushP_mem p hp).elim (hO.2.2 p) fun k=>k ▸ hO.1⟩
  ·cases he
noncomputable def runD (d:Desk):List Dd→Desk × Nat
 |[]=>(d,0)
 |a :: l=>match doD d a with
  |some e=>((runD e l).1,(runD e l).2+1)
  |none=>runD d l
theorem runD_app (d:Desk) (l m:List Dd):runD d (l ++ m)=((runD (runD d l).1 m).1,(runD d l).2+(runD (runD d l).1 m).2):=by
 induction l generalizing d with
 |nil=>exact Prod.ext rfl (Nat.zero_add _).symm
 |cons a l ih =>
  rw [List.cons_append]
  simp only [runD]
  cases h:doD d a with
  |none=>exact ih d
  |some e =>
   simp only [ih e]
   exact Prod.ext rfl (by dsimp only; omega)
theorem runD_one (d:Desk) (a:Dd):runD d [a]=match doD d a with
  |some e=>(e,1)
  |none=>(d,0):=by
 simp only [runD]
theorem runD_some {d e:Desk} {l:List Dd} {a:Dd} (h:doD (runD d l).1 a=some e):runD d (l ++ [a])=(e,(runD d l).2+1):=by
 rw [runD_app,runD_one,h]
theorem runD_none {d:Desk} {l:List Dd} {a:Dd} (h:doD (runD d l).1 a=none):runD d (l ++ [a])=runD d l:=by
 rw [runD_app,runD_one,h]
 rfl
theorem runD_ok {d:Desk} (h:deskOk d):∀ l:List Dd,deskOk (runD d l).1
 |[]=>h
 |a :: l=>by
  simp only [runD]
  cases e:doD d a with
  |none=>exact runD_ok h l
  |some x=>exact runD_ok (doD_ok h e) l
theorem runD_le (d:Desk):∀ l:List Dd,(runD d l).2≤l.length
 |[]=>Nat.le_refl _
 |a :: l=>by
  simp only [runD]
  cases e:doD d a with
  |none=>have:=runD_le d l; simp only [List.length_cons]; omega
  |some x=>have:=runD_le x l; simp only [List.length_cons]; omega
theorem take_step {l:List Dd} {i:Nat} (h:i<l.length):l.take (i+1)=l.take i ++ [l.getD i default]:=take_succ' default h
end Go.Proofs.YtgdbhjmpkkbnnaaGreatDoor.Vc
end
section
/- Part ZC: what a term says, by the program. -/
namespace Go.Proofs.YtgdbhjmpkkbnnaaGreatDoor.Vc
open Go.Proofs
set_option maxRecDepth 10000
set_option maxHeartbeats 4000000
def bl (s:List Bool) (j:Nat):List AV:=[.bool (s.reverse.getD j false)]
theorem push_len {bs:List Int} {c:Int} {m:Mark} {s:List Bool} (hk:m.kind=0):(stepS bs c m s).length=s.length+1:=by
 unfold stepS
 rw [if_pos hk]
 rfl
theorem push_ext {bs:List Int} {c:Int} {m:Mark} {s:List Bool} {g:Nat→List AV} (hk:m.kind=0) (hg:g 0=[.bool (cnt bs c m)]):(stepS bs c m s).length=s.length+1∧∀ j,j<(stepS bs c m s).length→bl (stepS bs c m s) j=appF s.length (bl s) g j:=by
 unfold stepS
 rw [if_pos hk]
 refine ⟨rfl,fun j hj=>?_⟩
 simp only [List.length_cons] at hj
 unfold appF bl
 rw [List.reverse_cons,List.getD_eq_getElem?_getD,List.getElem?_append]
 cases hb:Nat.blt j s.length with
 |true =>
  have:j<s.length:=Nat.le_of_ble_eq_true hb
  rw [if_pos (by simpa using this),← List.getD_eq_getElem?_getD]
  rfl
 |false =>
  have:¬ j<s.length:=fun h=>by
   have:Nat.blt j s.length=true:=Nat.ble_eq_true_of_le h
   rw [this] at hb; cases hb
  have:j=s.length:=by omega
  subst this
  rw [if_neg (by simp)]
  simp [hg]
theorem rev_a {b a:Bool} {r:List Bool}:(b :: a :: r).reverse.getD r.length false=a:=by
 simp [List.getD_eq_getElem?_getD]
theorem rev_b {b a:Bool} {r:List Bool}:(b :: a :: r).reverse.getD (r.length+1) false=b:=by
 simp [List.getD_eq_getElem?_getD]
theorem conn_len {bs:List Int} {c:Int} {m:Mark} {b a:Bool} {r:List Bool} {n:Nat} (hk:m.kind≠0) (hn:n=r.length):(stepS bs c m (b :: a :: r)).length=n+1:=by
 subst hn
 unfold stepS
 rw [if_neg hk]
 rfl
theorem conn_ext {bs:List Int} {c:Int} {m:Mark} {b a v:Bool} {r:List Bool} {g:Nat→List AV} {n:Nat} (hk:m.kind≠0) (hv:v=if m.kind=2 then a || b else a && b) (hn:n=r.length) (hg:g 0=[.bool v]):(stepS bs c m (b :: a :: r)).length=n+1∧(∀ j,j<(stepS bs c m (b :: a :: r)).length→bl (stepS bs c m (b :: a :: r)) j=appF n (bl (b :: a :: r)) g j):=by
 subst hn
 unfold stepS
 rw [if_neg hk]
 dsimp only
 rw [← hv]
 refine ⟨rfl,fun j hj=>?_⟩
 simp only [List.length_cons] at hj
 unfold appF bl
 rw [List.reverse_cons,List.getD_eq_getElem?_getD,List.getElem?_append]
 cases hb:Nat.blt j r.length with
 |true =>
  have h1:j<r.length:=Nat.le_of_ble_eq_true hb
  rw [if_pos (by simpa using h1)]
  simp [List.getD_eq_getElem?_getD,List.getElem?_append,h1]
  try rw [if_pos (by omega)]
 |false =>
  have:¬ j<r.length:=fun h=>by
   have:Nat.blt j r.length=true:=Nat.ble_eq_true_of_le h
   rw [this] at hb; cases hb
  have:j=r.length:=by omega
  subst this
  rw [if_neg (by simp)]
  simp [hg]
def C39:List AV→(AV→Prop)→Prop:=con (X:=Sy) (fun x=>[house x.p x.bs,slM x.t,.int .i64 x.c]) (fun x=>sayOk x∧x.t.length≤9) fun x K=>K (.bool (says x.bs x.c x.t))
theorem F39:FF 163 C39:=by
 refine fitE [(167,C50)] (by simp only [List.mem_cons,List.not_mem_nil,or_false]; rintro _ rfl <;> first|exact F50) Tryz.f163 ⟨rfl,by decide +kernel,by decide +kernel⟩ (fun _ _ _ hk h=>hk _ h) ?_
 rintro ⟨p,bs,t,c⟩ K ⟨⟨h1,h2,h3,h4,h5⟩,h6⟩ h
 refine ⟨Nat.le_of_ble_eq_true rfl,?_⟩
 dsimp only at h h1 h2 h3 h4 h5 h6 ⊢
 repeat' (first|refine vz ?_|(conv=>whnf); first|with_reducible first|refine Sp.mk ?_ ?_|refine br_d (fun _=>?_) fun _=>?_|refine vM (fun _=>?_) fun _=>?_)
 refine Lp.mk ⟨Nat,fun i=>[(2,.int .i64 c),(3,.ptr 0 0),(6,.bool false),(7,.row 1 1 0 (runS bs c (t.take i) []).length),(14,slM t),(15,.int .i64 t.length),(16,.int .i64 i)],
  fun i=>[.box [.int .i64 p,slI bs],.row 1 (runS bs c (t.take i) []).length (bl (runS bs c (t.take i) []))],fun i=>i≤t.length,fun i=>t.length-i,⟨0,Nat.zero_le _,⟨⟨[some 0,none],[],rfl,rfl,?_,?_⟩⟩⟩,?_⟩
 ·exact wq
 ·exact wq
 intro i i1
 obtain ⟨q,hq⟩:=walk_prefix h2 i
 have hl:=(runS_frame (bs:=bs) (c:=c) (t.take i) [] [] q hq).2
 have hql:q≤i:=by
  have:=walkP_le bs _ _ _ hq
  simp only [List.length_take] at this
  omega
 have hst:i<t.length→∃ q',stepP bs (t.getD i default) q=some q':=fun hi=>by
  obtain ⟨q',hq'⟩:=walk_prefix h2 (i+1)
  rw [walkP_take hi hq] at hq'
  exact ⟨q',hq'⟩
 have hnx:i<t.length→runS bs c (t.take (i+1)) []=stepS bs c (t.getD i default) (runS bs c (t.take i) []):=fun hi=>by
  rw [take_succ' default hi,runS_app]
  rfl
 have hend:¬ i<t.length→runS bs c (t.take i) []=runS bs c t []:=fun hi=>by rw [List.take_of_length_le (by omega)]
 dsimp only
 generalize hs:runS bs c (t.take i) []=s at *
 have hat:i<t.length→(t.getD (i:Int).toNat default).kind=0→0≤(t.getD (i:Int).toNat default).at_∧(t.getD (i:Int).toNat default).at_<bs.length:=fun hi hk=>by
  obtain ⟨q',e⟩:=hst hi
  replace hk:(t.getD i default).kind=0:=hk
  show 0≤(t.getD i default).at_∧(t.getD i default).at_<bs.length
  unfold stepP at e
  split at e
  ·omega
  ·rw [if_neg (by omega)] at e; cases e
 have h2s:i<t.length→¬ (t.getD (i:Int).toNat default).kind=0→2≤s.length:=fun hi hk=>by
  obtain ⟨q',e⟩:=hst hi
  rcases stepP_kind e with ⟨g,_⟩|⟨_,_,g,_⟩
  ·exact absurd g hk
  ·omega
 repeat' (first|refine vz ?_|(conv=>whnf); first|with_reducible first|refine Sp.mk ?_ ?_|refine br_d (fun _=>?_) fun _=>?_|refine vM (fun _=>?_) fun _=>?_)
 ·rename_i hi hk
  have hi:i<t.length:=by omega
  have hb:=hat hi hk
  refine Dr.mk ⟨(.rd 0 (.rd 1 (.rd 2 (.rd 3 (.rd 4 (.rd 5 (.rd 6 (.rd 7 (.rd 8 (.rd 10 (.rd 11 (.ef 9 (.rd 12 (.ef 13 (.ef 14 (.rd 15 .dn) .no) .no)) .no)))))))))))),by decide +kernel,?_⟩
  repeat' (first|refine vz ?_|(conv=>whnf); first|with_reducible first|refine Sp.mk ?_ ?_|refine br_d (fun _=>?_) fun _=>?_|refine vM (fun _=>?_) fun _=>?_)
  have hb2:=h3 _ (getD_mem' (l:=bs) (i:=(t.getD (i:Int).toNat default).at_.toNat) (d:=0) (by omega))
  have hb3:=band_lt hb2.1 hb2.2 h4 h5
  refine ⟨band (bs.getD (t.getD (i:Int).toNat default).at_.toNat 0) c,?_,⟨hb3⟩,?_⟩
  ·exact wq
  repeat' (first|refine vz ?_|(conv=>whnf); first|with_reducible first|refine Sp.mk ?_ ?_|refine br_d (fun _=>?_) fun _=>?_|refine vM (fun _=>?_) fun _=>?_)
  refine ⟨i+1,by show i+1≤t.length; omega,by show t.length-(i+1)<t.length-i; omega,⟨⟨[some 0,some 4],[],rfl,rfl,?_,?_⟩⟩⟩
  ·repeat' ((conv=>whnf); first|with_reducible exact True.intro|exact vW|with_reducible refine And.intro ?_ ?_)
   (conv=>whnf)
   refine Chk.mk ⟨rfl,?_⟩
   rw [hnx hi]
   exact push_len hk
  ·repeat' ((conv=>whnf); first|with_reducible exact True.intro|exact vW|with_reducible refine And.intro ?_ ?_)
   (conv=>whnf)
   refine Chk.mk ?_
   rw [hnx hi]
   exact push_ext hk rfl
 ·rename_i hi hk
  have hi:i<t.length:=by omega
  have hb:=h2s hi hk
  replace hk:(t.getD i default).kind≠0:=hk
  match s,hb,hnx with
  |b :: a :: r,hb,hnx =>
   have n2:(((b :: a :: r).length:Int)-2).toNat=r.length:=by simp only [List.length_cons]; omega
   have n1:(((b :: a :: r).length:Int)-1).toNat=r.length+1:=by simp only [List.length_cons]; omega
   have ea:(b :: a :: r).reverse.getD (0+(((b :: a :: r).length:Int)-2).toNat) false=a:=by rw [n2,Nat.zero_add]; exact rev_a
   have eb:(b :: a :: r).reverse.getD (0+(((b :: a :: r).length:Int)-1).toNat) false=b:=by rw [n1,Nat.zero_add]; exact rev_b
   refine Dr.mk ⟨(.rd 0 (.rd 1 (.rd 2 (.rd 3 (.rd 4 (.rd 5 (.rd 6 (.rd 7 (.rd 8 (.rd 9 (.rd 10 (.rd 11 (.rd 12 (.rd 13 .dn)))))))))))))),by decide +kernel,?_⟩
   repeat' (first|refine vz ?_|(conv=>whnf); first|with_reducible first|refine Sp.mk ?_ ?_|refine br_d (fun _=>?_) fun _=>?_|refine vM (fun _=>?_) fun _=>?_)
   all_goals
    rename_i g1 g2
    replace g1:=ea.symm.trans g1
   all_goals
    refine ⟨i+1,by show i+1≤t.length; omega,by show t.length-(i+1)<t.length-i; omega,⟨⟨[some 0,some 4],[],rfl,rfl,?_,?_⟩⟩⟩
    ·repeat' ((conv=>whnf); first|with_reducible exact True.intro|exact vW|with_reducible refine And.intro ?_ ?_)
     all_goals
      (conv=>whnf)
      refine Chk.mk ⟨rfl,?_⟩
      rw [hnx hi]
      exact conn_len hk n2
    ·repeat' ((conv=>whnf); first|with_reducible exact True.intro|exact vW|with_reducible refine And.intro ?_ ?_)
     all_goals
      (conv=>whnf)
      refine Chk.mk ?_
      rw [hnx hi]
      refine conn_ext hk ?_ n2 rfl
      first
       |(rw [if_pos (show (t.getD i default).kind=2 from g2)]; first|(rw [g1]; rfl)|(refine eb.trans ?_; rw [g1]; rfl))
       |(rw [if_neg (show ¬ (t.getD i default).kind=2 from g2)]; first|(rw [g1]; rfl)|(refine eb.trans ?_; rw [g1]; rfl))
 have e:=hend (by omega)
 obtain ⟨v,hv⟩:=List.length_eq_one_iff.1 (runS_frame (bs:=bs) (c:=c) t [] [] 1 h2).2
 rw [hv] at e
 subst e
 have hsay:says bs c t=v:=by unfold says; rw [hv]; rfl
 rw [hsay] at h
 repeat' (first|refine vz ?_|(conv=>whnf); first|with_reducible first|refine Sp.mk ?_ ?_|refine br_d (fun _=>?_) fun _=>?_|refine vM (fun _=>?_) fun _=>?_)
 exact h
end Go.Proofs.YtgdbhjmpkkbnnaaGreatDoor.Vc
end
