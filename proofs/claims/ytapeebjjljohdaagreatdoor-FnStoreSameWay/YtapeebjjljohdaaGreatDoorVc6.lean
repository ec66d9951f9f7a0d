/- Part DC: the reference text of a deed. -/
import Derived.Test.YtapeebjjljohdaaGreatDoorVc5
section
namespace Go.Proofs.YtapeebjjljohdaaGreatDoor.Vc
open Go.Proofs
theorem containsAny_eq (chars:List UInt8):∀ l:List UInt8,Lib.containsAny l chars=l.any chars.contains
 |[]=>rfl
 |b :: l=>by
  have ih':0≤Lib.indexAny l chars ↔ l.any chars.contains=true:=by rw [← containsAny_eq chars l]; simp [Lib.containsAny]
  have hg:=Lib.indexAny_ge chars l
  rw [Bool.eq_iff_iff,List.any_cons,Bool.or_eq_true,← ih']
  show decide (0≤Lib.indexAny (b :: l) chars)=true ↔ _
  rw [decide_eq_true_eq,Lib.indexAny]
  split
  ·rename_i e; exact ⟨fun _=>Or.inl e,fun _=>Int.le_refl 0⟩
  ·rename_i e
   simp only [beq_iff_eq]
   have e':¬ chars.contains b=true:=e
   split
   ·rename_i e1; rw [e1]; exact ⟨fun h=>absurd h (by decide),fun h=>h.elim (fun h=>absurd h e') id⟩
   ·constructor
    ·intro _; right; omega
    ·rintro (h|h)
     ·exact absurd h e'
     ·omega
theorem bt_at (w:ByteArray) (i:Nat) (h:i<w.size):∃ b:UInt8,w.data.toList[i]?=some b∧bt w i=b.toNat:=by
 have h':i<w.data.size:=h
 refine ⟨w.data[i],by simp,?_⟩
 simp [bt,Array.getElem?_eq_getElem h']
def okTo (w:ByteArray):Nat→Bool
 |0=>decide ((w.size:Int) > 0)
 |i+1=>okTo w i && (decide (¬ bt w i=32) && decide (¬ bt w i=10))
theorem okTo_iff (w:ByteArray):∀ i,okTo w i=true ↔ 0<w.size∧∀ j,j<i→bt w j≠32∧bt w j≠10
 |0=>by simp [okTo]
 |i+1=>by
  simp only [okTo,Bool.and_eq_true,decide_eq_true_eq,okTo_iff w i]
  constructor
  ·rintro ⟨⟨h1,h2⟩,h3,h4⟩
   refine ⟨h1,fun j hj=>?_⟩
   by_cases e:j=i
   ·subst e; exact ⟨h3,h4⟩
   ·exact h2 j (by omega)
  ·rintro ⟨h1,h2⟩
   exact ⟨⟨h1,fun j hj=>h2 j (by omega)⟩,h2 i (by omega)⟩
theorem size_zero {w:ByteArray}:w=⟨#[]⟩ ↔ ¬ 0<w.size:=by
 constructor
 ·rintro rfl; decide
 ·intro h
  have h1:w.data.size=0:=by have:¬ 0<w.data.size:=h; omega
  have:w.data=#[]:=Array.eq_empty_of_size_eq_zero h1
  cases w
  simp_all
theorem okTo_plain (w:ByteArray):okTo w w.size=plainW w:=by
 rw [Bool.eq_iff_iff,okTo_iff]
 unfold plainW spc
 rw [containsAny_eq]
 simp only [Bool.and_eq_true,decide_eq_true_eq,Bool.not_eq_true',List.any_eq_false,size_zero,Classical.not_not]
 refine and_congr_right fun h0=>⟨fun h b hb=>?_,fun h j hj=>?_⟩
 ·obtain ⟨i,hi,rfl⟩:=List.getElem_of_mem hb
  have hi':i<w.size:=by simpa using hi
  obtain ⟨c,h1,h2⟩:=bt_at w i hi'
  rw [List.getElem?_eq_getElem hi] at h1
  have hc:=Option.some.inj h1
  have:=h i hi'
  rw [h2,← hc] at this
  intro hs
  have:w.data.toList[i]=32∨w.data.toList[i]=10:=by simpa [sn] using hs
  rcases this with e|e <;> simp [e] at this
  all_goals simp_all
 ·obtain ⟨c,h1,h2⟩:=bt_at w j hj
  have:=h c (List.mem_of_getElem? h1)
  rw [h2]
  constructor
  ·intro e
   have:c=32:=by apply UInt8.toNat_inj.1; show c.toNat=32; omega
   subst this
   exact absurd rfl this
  ·intro e
   have:c=10:=by apply UInt8.toNat_inj.1; show c.toNat=10; omega
   subst this
   exact absurd rfl this
def C105:List AV→(AV→Prop)→Prop:=con (X:=Dd) (fun d=>[ded d]) (fun d=>d.words.size≤1048576) fun d K=>K (.str (deedT d))
set_option maxRecDepth 10000 in
set_option maxHeartbeats 4000000 in
theorem F105:FF 73 C105:=by
 refine fitE [(83,C35),(72,C106)] (by simp only [List.mem_cons,List.not_mem_nil,or_false]; rintro _ (rfl|rfl) <;> first|exact F35|exact F106) Tryz.f73 ⟨rfl,by decide +kernel,by decide +kernel⟩ (fun _ _ _ hk h=>hk _ h) ?_
 rintro ⟨k,a,b,w⟩ K h1 h
 refine ⟨Nat.le_of_ble_eq_true rfl,?_⟩
 dsimp only [ded,encD] at h1 h ⊢
 repeat' (first|refine vz ?_|(conv=>whnf); first|with_reducible first|refine Sp.mk ?_ ?_|refine br_d (fun _=>?_) fun _=>?_|refine vM (fun _=>?_) fun _=>?_)
 refine Lp.mk ⟨Nat,fun i=>[(1,.ptr 0 0),(3,.bool (okTo w i)),(4,.int .i64 i)],fun _=>[.box (encD ⟨k,a,b,w⟩)],fun i=>i≤w.size,fun i=>w.size-i,⟨0,Nat.zero_le _,⟨⟨[some 0],[],rfl,rfl,?_,?_⟩⟩⟩,?_⟩
 ·exact wq
 ·exact wq
 intro i i1
 dsimp only [encD]
 cases hp:okTo w i
 ·have hq:okTo w (i+1)=false:=by simp only [okTo,hp,Bool.false_and]
  repeat' (first|refine vz ?_|(conv=>whnf); first|with_reducible first|refine Sp.mk ?_ ?_|refine br_d (fun _=>?_) fun _=>?_|refine vM (fun _=>?_) fun _=>?_)
  ·refine ⟨i+1,by omega,by omega,⟨⟨[some 0],[],rfl,rfl,?_,?_⟩⟩⟩
   ·repeat' ((conv=>whnf); first|with_reducible exact True.intro|exact vW|with_reducible refine And.intro ?_ ?_)
    all_goals first|exact Chk.mk hq|exact Chk.mk hq.symm|exact Chk.mk (by omega)
   ·exact wq
  ·obtain rfl:i=w.size:=by omega
   rw [okTo_plain] at hp
   refine ⟨(a,0,99),?_,⟨trivial⟩,?_⟩
   ·exact wq
   dsimp only
   repeat' (first|refine vz ?_|(conv=>whnf); first|with_reducible first|refine Sp.mk ?_ ?_|refine br_d (fun _=>?_) fun _=>?_|refine vM (fun _=>?_) fun _=>?_)
   ·rename_i r1
    refine ⟨(b,0,99),?_,⟨trivial⟩,?_⟩
    ·exact wq
    dsimp only
    repeat' (first|refine vz ?_|(conv=>whnf); first|with_reducible first|refine Sp.mk ?_ ?_|refine br_d (fun _=>?_) fun _=>?_|refine vM (fun _=>?_) fun _=>?_)
    ·have na':=num_size (n:=a) (by omega) (by omega)
     refine ⟨a,?_,⟨by omega,by omega⟩,?_⟩
     ·exact wq
     repeat' ((conv=>whnf); first|refine ⟨Chk.mk (by have z1:=sz1; have z2:=sz2; have z3:=sz3; have z4:=sz4; have z5:=sz5; (repeat rw [ByteArray.size_append]); omega),?_⟩|refine vA ?_|with_reducible first|refine v8 ?_|refine Sp.mk ?_ ?_|refine vS ?_|refine vR ?_|refine vB ?_|refine br_nt ?_|refine br_tt ?_|refine br_ff ?_|refine vP ?_|refine vQ ?_|refine vT ?_|refine vF ?_|refine br_and ?_|refine br_or ?_|refine br_d (fun _=>?_) fun _=>?_|refine vM (fun _=>?_) fun _=>?_)
     ((unfold deedT at h; repeat' (split at h)) <;> first|exact h|(exfalso; simp_all; done)|(exfalso; simp_all; omega))
    all_goals try ((unfold deedT at h; repeat' (split at h)) <;> first|exact h|(exfalso; simp_all; done)|(exfalso; simp_all; omega))
    ·have na':=num_size (n:=a) (by omega) (by omega)
     have nb':=num_size (n:=b) (by omega) (by omega)
     refine Dr.mk ⟨(.rd 0 (.rd 1 (.rd 5 (.rd 6 (.ef 2 (.rd 3 (.rd 4 (.ef 7 (.rd 8 (.rd 9 .dn)) .no))) .no))))),by decide +kernel,?_⟩
     repeat' ((conv=>whnf); first|refine ⟨Chk.mk (by have z1:=sz1; have z2:=sz2; have z3:=sz3; have z4:=sz4; have z5:=sz5; (repeat rw [ByteArray.size_append]); omega),?_⟩|refine vA ?_|with_reducible first|refine v8 ?_|refine Sp.mk ?_ ?_|refine vS ?_|refine vR ?_|refine vB ?_|refine br_nt ?_|refine br_tt ?_|refine br_ff ?_|refine vP ?_|refine vQ ?_|refine vT ?_|refine vF ?_|refine br_and ?_|refine br_or ?_|refine br_d (fun _=>?_) fun _=>?_|refine vM (fun _=>?_) fun _=>?_)
     refine ⟨a,?_,⟨by omega,by omega⟩,?_⟩
     ·exact wq
     repeat' ((conv=>whnf); first|refine ⟨Chk.mk (by have z1:=sz1; have z2:=sz2; have z3:=sz3; have z4:=sz4; have z5:=sz5; (repeat rw [ByteArray.size_append]); omega),?_⟩|refine vA ?_|with_reducible first|refine v8 ?_|refine Sp.mk ?_ ?_|refine vS ?_|refine vR ?_|refine vB ?_|refine br_nt ?_|refine br_tt ?_|refine br_ff ?_|refine vP ?_|refine vQ ?_|refine vT ?_|refine vF ?_|refine br_and ?_|refine br_or ?_|refine br_d (fun _=>?_) fun _=>?_|refine vM (fun _=>?_) fun _=>?_)
     refine ⟨b,?_,⟨by omega,by omega⟩,?_⟩
     ·exact wq
     repeat' ((conv=>whnf); first|refine ⟨Chk.mk (by have z1:=sz1; have z2:=sz2; have z3:=sz3; have z4:=sz4; have z5:=sz5; (repeat rw [ByteArray.size_append]); omega),?_⟩|refine vA ?_|with_reducible first|refine v8 ?_|refine Sp.mk ?_ ?_|refine vS ?_|refine vR ?_|refine vB ?_|refine br_nt ?_|refine br_tt ?_|refine br_ff ?_|refine vP ?_|refine vQ ?_|refine vT ?_|refine vF ?_|refine br_and ?_|refine br_or ?_|refine br_d (fun _=>?_) fun _=>?_|refine vM (fun _=>?_) fun _=>?_)
     ((unfold deedT at h; repeat' (split at h)) <;> first|exact h|(exfalso; simp_all; done)|(exfalso; simp_all; omega))
    ·rename_i r2
     replace r2:b<0∨99<b:=by omega
     unfold deedT at h; dsimp only at h; rw [if_pos (by omega)] at h; exact h
   ·rename_i r1
    replace r1:a<0∨99<a:=by omega
    unfold deedT at h; dsimp only at h; rw [if_pos (by omega)] at h; exact h
 ·repeat' (first|refine vz ?_|(conv=>whnf); first|with_reducible first|refine Sp.mk ?_ ?_|refine br_d (fun _=>?_) fun _=>?_|refine vM (fun _=>?_) fun _=>?_)
  ·refine ⟨i+1,by omega,by omega,⟨⟨[some 0],[],rfl,rfl,?_,?_⟩⟩⟩
   ·repeat' ((conv=>whnf); first|with_reducible exact True.intro|exact vW|with_reducible refine And.intro ?_ ?_)
    all_goals first|exact Chk.mk (by omega)|exact Chk.mk (by simp_all [okTo])
   ·exact wq
  ·refine ⟨i+1,by omega,by omega,⟨⟨[some 0],[],rfl,rfl,?_,?_⟩⟩⟩
   ·repeat' ((conv=>whnf); first|with_reducible exact True.intro|exact vW|with_reducible refine And.intro ?_ ?_)
    all_goals first|exact Chk.mk (by omega)|exact Chk.mk (by simp_all [okTo])
   ·exact wq
  ·obtain rfl:i=w.size:=by omega
   rw [okTo_plain] at hp
   refine ⟨(a,0,99),?_,⟨trivial⟩,?_⟩
   ·exact wq
   dsimp only
   repeat' (first|refine vz ?_|(conv=>whnf); first|with_reducible first|refine Sp.mk ?_ ?_|refine br_d (fun _=>?_) fun _=>?_|refine vM (fun _=>?_) fun _=>?_)
   ·rename_i r1
    refine ⟨(b,0,99),?_,⟨trivial⟩,?_⟩
    ·exact wq
    dsimp only
    repeat' (first|refine vz ?_|(conv=>whnf); first|with_reducible first|refine Sp.mk ?_ ?_|refine br_d (fun _=>?_) fun _=>?_|refine vM (fun _=>?_) fun _=>?_)
    ·have na':=num_size (n:=a) (by omega) (by omega)
     refine ⟨a,?_,⟨by omega,by omega⟩,?_⟩
     ·exact wq
     repeat' ((conv=>whnf); first|refine ⟨Chk.mk (by have z1:=sz1; have z2:=sz2; have z3:=sz3; have z4:=sz4; have z5:=sz5; (repeat rw [ByteArray.size_append]); omega),?_⟩|refine vA ?_|with_reducible first|refine v8 ?_|refine Sp.mk ?_ ?_|refine vS ?_|refine vR ?_|refine vB ?_|refine br_nt ?_|refine br_tt ?_|refine br_ff ?_|refine vP ?_|refine vQ ?_|refine vT ?_|refine vF ?_|refine br_and ?_|refine br_or ?_|refine br_d (fun _=>?_) fun _=>?_|refine vM (fun _=>?_) fun _=>?_)
     ((unfold deedT at h; repeat' (split at h)) <;> first|exact h|(exfalso; simp_all; done)|(exfalso; simp_all; omega))
    all_goals try ((unfold deedT at h; repeat' (split at h)) <;> first|exact h|(exfalso; simp_all; done)|(exfalso; simp_all; omega))
    ·repeat' ((conv=>whnf); first|refine ⟨Chk.mk (by have z1:=sz1; have z2:=sz2; have z3:=sz3; have z4:=sz4; have z5:=sz5; (repeat rw [ByteArray.size_append]); omega),?_⟩|refine vA ?_|with_reducible first|refine v8 ?_|refine Sp.mk ?_ ?_|refine vS ?_|refine vR ?_|refine vB ?_|refine br_nt ?_|refine br_tt ?_|refine br_ff ?_|refine vP ?_|refine vQ ?_|refine vT ?_|refine vF ?_|refine br_and ?_|refine br_or ?_|refine br_d (fun _=>?_) fun _=>?_|refine vM (fun _=>?_) fun _=>?_)
     ((unfold deedT at h; repeat' (split at h)) <;> first|exact h|(exfalso; simp_all; done)|(exfalso; simp_all; omega))
    ·have na':=num_size (n:=a) (by omega) (by omega)
     have nb':=num_size (n:=b) (by omega) (by omega)
     refine Dr.mk ⟨(.rd 0 (.rd 1 (.rd 5 (.rd 6 (.rd 10 (.rd 11 (.ef 2 (.rd 3 (.rd 4 (.ef 7 (.rd 8 (.rd 9 (.rd 12 (.rd 13 .dn)))) .no))) .no))))))),by decide +kernel,?_⟩
     repeat' ((conv=>whnf); first|refine ⟨Chk.mk (by have z1:=sz1; have z2:=sz2; have z3:=sz3; have z4:=sz4; have z5:=sz5; (repeat rw [ByteArray.size_append]); omega),?_⟩|refine vA ?_|with_reducible first|refine v8 ?_|refine Sp.mk ?_ ?_|refine vS ?_|refine vR ?_|refine vB ?_|refine br_nt ?_|refine br_tt ?_|refine br_ff ?_|refine vP ?_|refine vQ ?_|refine vT ?_|refine vF ?_|refine br_and ?_|refine br_or ?_|refine br_d (fun _=>?_) fun _=>?_|refine vM (fun _=>?_) fun _=>?_)
     refine ⟨a,?_,⟨by omega,by omega⟩,?_⟩
     ·exact wq
     repeat' ((conv=>whnf); first|refine ⟨Chk.mk (by have z1:=sz1; have z2:=sz2; have z3:=sz3; have z4:=sz4; have z5:=sz5; (repeat rw [ByteArray.size_append]); omega),?_⟩|refine vA ?_|with_reducible first|refine v8 ?_|refine Sp.mk ?_ ?_|refine vS ?_|refine vR ?_|refine vB ?_|refine br_nt ?_|refine br_tt ?_|refine br_ff ?_|refine vP ?_|refine vQ ?_|refine vT ?_|refine vF ?_|refine br_and ?_|refine br_or ?_|refine br_d (fun _=>?_) fun _=>?_|refine vM (fun _=>?_) fun _=>?_)
     refine ⟨b,?_,⟨by omega,by omega⟩,?_⟩
     ·exact wq
     repeat' ((conv=>whnf); first|refine ⟨Chk.mk (by have z1:=sz1; have z2:=sz2; have z3:=sz3; have z4:=sz4; have z5:=sz5; (repeat rw [ByteArray.size_append]); omega),?_⟩|refine vA ?_|with_reducible first|refine v8 ?_|refine Sp.mk ?_ ?_|refine vS ?_|refine vR ?_|refine vB ?_|refine br_nt ?_|refine br_tt ?_|refine br_ff ?_|refine vP ?_|refine vQ ?_|refine vT ?_|refine vF ?_|refine br_and ?_|refine br_or ?_|refine br_d (fun _=>?_) fun _=>?_|refine vM (fun _=>?_) fun _=>?_)
     ((unfold deedT at h; repeat' (split at h)) <;> first|exact h|(exfalso; simp_all; done)|(exfalso; simp_all; omega))
    ·have na':=num_size (n:=a) (by omega) (by omega)
     have nb':=num_size (n:=b) (by omega) (by omega)
     refine Dr.mk ⟨(.rd 0 (.rd 1 (.rd 5 (.rd 6 (.ef 2 (.rd 3 (.rd 4 (.ef 7 (.rd 8 (.rd 9 .dn)) .no))) .no))))),by decide +kernel,?_⟩
     repeat' ((conv=>whnf); first|refine ⟨Chk.mk (by have z1:=sz1; have z2:=sz2; have z3:=sz3; have z4:=sz4; have z5:=sz5; (repeat rw [ByteArray.size_append]); omega),?_⟩|refine vA ?_|with_reducible first|refine v8 ?_|refine Sp.mk ?_ ?_|refine vS ?_|refine vR ?_|refine vB ?_|refine br_nt ?_|refine br_tt ?_|refine br_ff ?_|refine vP ?_|refine vQ ?_|refine vT ?_|refine vF ?_|refine br_and ?_|refine br_or ?_|refine br_d (fun _=>?_) fun _=>?_|refine vM (fun _=>?_) fun _=>?_)
     refine ⟨a,?_,⟨by omega,by omega⟩,?_⟩
     ·exact wq
     repeat' ((conv=>whnf); first|refine ⟨Chk.mk (by have z1:=sz1; have z2:=sz2; have z3:=sz3; have z4:=sz4; have z5:=sz5; (repeat rw [ByteArray.size_append]); omega),?_⟩|refine vA ?_|with_reducible first|refine v8 ?_|refine Sp.mk ?_ ?_|refine vS ?_|refine vR ?_|refine vB ?_|refine br_nt ?_|refine br_tt ?_|refine br_ff ?_|refine vP ?_|refine vQ ?_|refine vT ?_|refine vF ?_|refine br_and ?_|refine br_or ?_|refine br_d (fun _=>?_) fun _=>?_|refine vM (fun _=>?_) fun _=>?_)
     refine ⟨b,?_,⟨by omega,by omega⟩,?_⟩
     ·exact wq
     repeat' ((conv=>whnf); first|refine ⟨Chk.mk (by have z1:=sz1; have z2:=sz2; have z3:=sz3; have z4:=sz4; have z5:=sz5; (repeat rw [ByteArray.size_append]); omega),?_⟩|refine vA ?_|with_reducible first|refine v8 ?_|refine Sp.mk ?_ ?_|refine vS ?_|refine vR ?_|refine vB ?_|refine br_nt ?_|refine br_tt ?_|refine br_ff ?_|refine vP ?_|refine vQ ?_|refine vT ?_|refine vF ?_|refine br_and ?_|refine br_or ?_|refine br_d (fun _=>?_) fun _=>?_|refine vM (fun _=>?_) fun _=>?_)
     ((unfold deedT at h; repeat' (split at h)) <;> first|exact h|(exfalso; simp_all; done)|(exfalso; simp_all; omega))
    ·rename_i r2
     replace r2:b<0∨99<b:=by omega
     unfold deedT at h; dsimp only at h; rw [if_pos (by omega)] at h; exact h
   ·rename_i r1
    replace r1:a<0∨99<a:=by omega
    unfold deedT at h; dsimp only at h; rw [if_pos (by omega)] at h; exact h
end Go.Proofs.YtapeebjjljohdaaGreatDoor.Vc
end
section
/- Part DD: the laws on the texts of deeds and journals. -/
namespace Go.Proofs.YtapeebjjljohdaaGreatDoor.Vc
open Go.Proofs
set_option maxRecDepth 10000
set_option maxHeartbeats 4000000
def C104:=C103
theorem F104:FF 30 C104:=by
 refine fitE [(55,C103)] (by simp only [List.mem_cons,List.not_mem_nil,or_false]; rintro _ rfl <;> first|exact F103) Tryz.f30 ⟨rfl,by decide +kernel,by decide +kernel⟩ (fun _ _ _ hk h=>hk _ h) ?_
 rintro ⟨k,a,b,w⟩ K h1 h
 refine ⟨Nat.le_of_ble_eq_true rfl,?_⟩
 dsimp only [ded,encD] at h1 h ⊢
 repeat' (first|refine vz ?_|(conv=>whnf); first|with_reducible first|refine Sp.mk ?_ ?_|refine br_d (fun _=>?_) fun _=>?_|refine vM (fun _=>?_) fun _=>?_)
 refine ⟨⟨k,a,b,w⟩,?_,⟨h1⟩,?_⟩
 ·exact wq
 repeat' (first|refine vz ?_|(conv=>whnf); first|with_reducible first|refine Sp.mk ?_ ?_|refine br_d (fun _=>?_) fun _=>?_|refine vM (fun _=>?_) fun _=>?_)
 exact h
end Go.Proofs.YtapeebjjljohdaaGreatDoor.Vc
end
section
/- Part DE: the law on the texts of journals. -/
namespace Go.Proofs.YtapeebjjljohdaaGreatDoor.Vc
open Go.Proofs
set_option maxRecDepth 10000
set_option maxHeartbeats 4000000
abbrev slD (l:List Dd):AV:=.sl 4 l.length fun i=>encD (l.getD i default)
def wsum (l:List Dd):Nat→Nat
 |0=>0
 |i+1=>wsum l i+(l.getD i default).words.size
end Go.Proofs.YtapeebjjljohdaaGreatDoor.Vc
end
section
/- Part DF: the texts of journals. -/
namespace Go.Proofs.YtapeebjjljohdaaGreatDoor.Vc
open Go.Proofs
set_option maxRecDepth 10000
set_option maxHeartbeats 4000000
theorem wsum_mono (l:List Dd) {i j:Nat} (h:i≤j):wsum l i≤wsum l j:=by
 induction j with
 |zero =>
  obtain rfl : i = 0 := by omega
  exact Nat.le_refl _
 |succ j ih =>
  by_cases e:i=j+1
  ·subst e; exact Nat.le_refl _
  ·have:=ih (by omega)
   show wsum l i≤wsum l j+_
   omega
theorem wsum_at (l:List Dd) {i:Nat} (h:i<l.length):(l.getD i default).words.size≤wsum l l.length:=by
 have:=wsum_mono l (show i+1≤l.length from h)
 have e:wsum l (i+1)=wsum l i+(l.getD i default).words.size:=rfl
 omega
theorem deedT_size (d:Dd):(deedT d).size≤d.words.size+12:=by
 unfold deedT
 split
 ·exact Nat.zero_le _
 ·rename_i hr
  have ha:=num_size (n:=d.a) (by omega) (by omega)
  have hb:=num_size (n:=d.b) (by omega) (by omega)
  have z1:=sz1; have z2:=sz2; have z3:=sz3; have z4:=sz4; have z5:=sz5
  have z6:(⟨#[98,97,99,107]⟩:ByteArray).size=4:=rfl
  have z7:(⟨#[]⟩:ByteArray).size=0:=rfl
  repeat' split
  all_goals (repeat rw [ByteArray.size_append]); omega
def jtx (l:List Dd):Nat→ByteArray
 |0=>⟨#[]⟩
 |i+1=>jtx l i ++ (deedT (l.getD i default) ++ ⟨#[10]⟩)
theorem jtx_size (l:List Dd):∀ i,(jtx l i).size≤wsum l i+13*i
 |0=>Nat.zero_le _
 |i+1=>by
  have h1:=jtx_size l i
  have h2:=deedT_size (l.getD i default)
  have e:wsum l (i+1)=wsum l i+(l.getD i default).words.size:=rfl
  have z:(⟨#[10]⟩:ByteArray).size=1:=rfl
  unfold jtx
  rw [ByteArray.size_append,ByteArray.size_append]
  omega
open Classical in
noncomputable def jT (l:List Dd):ByteArray:=if ∃ i,i<l.length∧deedT (l.getD i default)=⟨#[]⟩ then ⟨#[]⟩ else jtx l l.length
theorem jT_no {l:List Dd} {i:Nat} (h:i<l.length) (e:deedT (l.getD i default)=⟨#[]⟩):jT l=⟨#[]⟩:=if_pos ⟨i,h,e⟩
theorem jT_yes {l:List Dd} (h:∀ i,i<l.length→deedT (l.getD i default)≠⟨#[]⟩):jT l=jtx l l.length:=if_neg fun ⟨i,h1,h2⟩=>h i h1 h2
def jOk (l:List Dd):Prop:=l.length+wsum l l.length≤1048576
def C114:List AV→(AV→Prop)→Prop:=con (X:=List Dd) (fun l=>[slD l]) jOk fun l K=>K (.str (jT l))
theorem F114:FF 32 C114:=by
 refine fitE [(55,C103)] (by simp only [List.mem_cons,List.not_mem_nil,or_false]; rintro _ rfl <;> first|exact F103) Tryz.f32 ⟨rfl,by decide +kernel,by decide +kernel⟩ (fun _ _ _ hk h=>hk _ h) ?_
 rintro l K h1 h
 refine ⟨Nat.le_of_ble_eq_true rfl,?_⟩
 unfold jOk at h1
 repeat' (first|refine vz ?_|(conv=>whnf); first|with_reducible first|refine Sp.mk ?_ ?_|refine br_d (fun _=>?_) fun _=>?_|refine vM (fun _=>?_) fun _=>?_)
 refine Lp.mk ⟨Nat,fun i=>[(3,.str (jtx l i)),(7,slD l),(8,.int .i64 l.length),(9,.int .i64 i)],fun i=>[],fun i=>i≤l.length∧∀ j,j<i→deedT (l.getD j default)≠⟨#[]⟩,fun i=>l.length-i,⟨0,⟨Nat.zero_le _,fun j hj=>by omega⟩,⟨⟨[],[],rfl,rfl,?_,?_⟩⟩⟩,?_⟩
 ·exact wq
 ·exact wq
 intro i ⟨i1,i2⟩
 dsimp only
 repeat' (first|refine vz ?_|(conv=>whnf); first|with_reducible first|refine Sp.mk ?_ ?_|refine br_d (fun _=>?_) fun _=>?_|refine vM (fun _=>?_) fun _=>?_)
 ·rename_i hi
  have hi':i<l.length:=by omega
  have hw:=wsum_at l hi'
  refine ⟨l.getD i default,?_,⟨by omega⟩,?_⟩
  ·exact wq
  repeat' (first|refine vz ?_|(conv=>whnf); first|with_reducible first|refine Sp.mk ?_ ?_|refine br_d (fun _=>?_) fun _=>?_|refine vM (fun _=>?_) fun _=>?_)
  ·rename_i e
   rw [jT_no hi' e] at h
   exact h
  ·rename_i e
   have hs:=deedT_size (l.getD i default)
   have hj:=jtx_size l i
   have hm:=wsum_mono l i1
   have z:(⟨#[10]⟩:ByteArray).size=1:=rfl
   repeat' ((conv=>whnf); first|refine ⟨Chk.mk (by (repeat rw [ByteArray.size_append]); omega),?_⟩|refine vA ?_|with_reducible first|refine v8 ?_|refine Sp.mk ?_ ?_|refine vS ?_|refine vR ?_|refine vB ?_|refine br_nt ?_|refine br_tt ?_|refine br_ff ?_|refine vP ?_|refine vQ ?_|refine vT ?_|refine vF ?_|refine br_and ?_|refine br_or ?_|refine br_d (fun _=>?_) fun _=>?_|refine vM (fun _=>?_) fun _=>?_)
   refine ⟨i+1,⟨by omega,fun j hj=>?_⟩,by omega,⟨⟨[],[],rfl,rfl,?_,?_⟩⟩⟩
   ·by_cases ej:j=i
    ·subst ej; exact e
    ·exact i2 j (by omega)
   ·exact wq
   ·exact wq
 ·obtain rfl:i=l.length:=by omega
  rw [jT_yes i2] at h
  exact h
def C112:=C114
theorem F112:FF 58 C112:=by
 refine fitE [(73,C105)] (by simp only [List.mem_cons,List.not_mem_nil,or_false]; rintro _ rfl <;> first|exact F105) Tryz.f58 ⟨rfl,by decide +kernel,by decide +kernel⟩ (fun _ _ _ hk h=>hk _ h) ?_
 rintro l K h1 h
 refine ⟨Nat.le_of_ble_eq_true rfl,?_⟩
 unfold jOk at h1
 repeat' (first|refine vz ?_|(conv=>whnf); first|with_reducible first|refine Sp.mk ?_ ?_|refine br_d (fun _=>?_) fun _=>?_|refine vM (fun _=>?_) fun _=>?_)
 refine Lp.mk ⟨Nat,fun i=>[(0,slD l),(3,.str (jtx l i)),(4,.int .i64 i)],fun i=>[],fun i=>i≤l.length∧∀ j,j<i→deedT (l.getD j default)≠⟨#[]⟩,fun i=>l.length-i,⟨0,⟨Nat.zero_le _,fun j hj=>by omega⟩,⟨⟨[],[],rfl,rfl,?_,?_⟩⟩⟩,?_⟩
 ·exact wq
 ·exact wq
 intro i ⟨i1,i2⟩
 dsimp only
 repeat' (first|refine vz ?_|(conv=>whnf); first|with_reducible first|refine Sp.mk ?_ ?_|refine br_d (fun _=>?_) fun _=>?_|refine vM (fun _=>?_) fun _=>?_)
 ·rename_i hi
  have hi':i<l.length:=by omega
  have hw:=wsum_at l hi'
  refine ⟨l.getD i default,?_,⟨by omega⟩,?_⟩
  ·exact wq
  repeat' (first|refine vz ?_|(conv=>whnf); first|with_reducible first|refine Sp.mk ?_ ?_|refine br_d (fun _=>?_) fun _=>?_|refine vM (fun _=>?_) fun _=>?_)
  ·rename_i e
   rw [jT_no hi' e] at h
   exact h
  ·rename_i e
   have hs:=deedT_size (l.getD i default)
   have hj:=jtx_size l i
   have hm:=wsum_mono l i1
   have z:(⟨#[10]⟩:ByteArray).size=1:=rfl
   refine ⟨l.getD i default,?_,⟨by omega⟩,?_⟩
   ·exact wq
   repeat' ((conv=>whnf); first|refine ⟨Chk.mk (by (repeat rw [ByteArray.size_append]); omega),?_⟩|refine vA ?_|with_reducible first|refine v8 ?_|refine Sp.mk ?_ ?_|refine vS ?_|refine vR ?_|refine vB ?_|refine br_nt ?_|refine br_tt ?_|refine br_ff ?_|refine vP ?_|refine vQ ?_|refine vT ?_|refine vF ?_|refine br_and ?_|refine br_or ?_|refine br_d (fun _=>?_) fun _=>?_|refine vM (fun _=>?_) fun _=>?_)
   refine ⟨i+1,⟨by omega,fun j hj=>?_⟩,by omega,⟨⟨[],[],rfl,rfl,?_,?_⟩⟩⟩
   ·by_cases ej:j=i
    ·subst ej; exact e
    ·exact i2 j (by omega)
   ·repeat' ((conv=>whnf); first|with_reducible exact True.intro|exact vW|with_reducible refine And.intro ?_ ?_)
    all_goals exact Chk.mk (ByteArray.append_assoc ..).symm
   ·exact wq
 ·obtain rfl:i=l.length:=by omega
  rw [jT_yes i2] at h
  exact h
end Go.Proofs.YtapeebjjljohdaaGreatDoor.Vc
end
section
/- Part XA: deeds and journals that are read: the plain law. -/
namespace Go.Proofs.YtapeebjjljohdaaGreatDoor.Vc
open Go.Proofs
set_option maxRecDepth 10000
set_option maxHeartbeats 4000000
/-! ### Deeds that have a text -/
def kindB (k:Int):ByteArray:=if k=0 then ⟨#[98,111,100,121]⟩ else if k=1 then ⟨#[114,117,108,101]⟩ else if k=2 then ⟨#[97,109,101,110,100]⟩ else if k=3 then ⟨#[100,114,111,112]⟩ else ⟨#[98,97,99,107]⟩
def numsOf (x:Dd):List Int:=if x.kind=0 then [x.a] else if x.kind=2∨x.kind=3 then [x.a,x.b] else []
def wordsOf (x:Dd):List ByteArray:=if x.words=⟨#[]⟩ then [] else [x.words]
structure okDd (x:Dd):Prop where
 a:0≤x.a∧x.a≤99
 b:0≤x.b∧x.b≤99
 k:(x.kind=0∧x.b=0∧x.words=⟨#[]⟩)∨(x.kind=1∧x.a=0∧x.b=0∧plainW x.words=true)∨(x.kind=2∧plainW x.words=true)∨(x.kind=3∧x.words=⟨#[]⟩)∨(x.kind=4∧x.a=0∧x.b=0∧x.words=⟨#[]⟩)
theorem plainW_no {w:ByteArray} (h:plainW w=true):w≠⟨#[]⟩∧(32:UInt8) ∉ w.data.toList∧(10:UInt8) ∉ w.data.toList:=by
 unfold plainW spc at h
 rw [containsAny_eq] at h
 simp only [Bool.and_eq_true,decide_eq_true_eq,Bool.not_eq_true',List.any_eq_false] at h
 exact ⟨h.1,fun q=>h.2 32 q rfl,fun q=>h.2 10 q rfl⟩
theorem joinB_three (x y z sep:ByteArray):joinB [x,y,z] sep=x ++ sep ++ y ++ sep ++ z:=by
 have:=joinB_app (l:=[x,y]) (x:=z) (sep:=sep) (by simp)
 rwa [joinB_two] at this
theorem joinB_four (x y z u sep:ByteArray):joinB [x,y,z,u] sep=x ++ sep ++ y ++ sep ++ z ++ sep ++ u:=by
 have:=joinB_app (l:=[x,y,z]) (x:=u) (sep:=sep) (by simp)
 rwa [joinB_three] at this
theorem deedT_ok {x:Dd} (h:okDd x):deedT x=joinB (kindB x.kind :: ((numsOf x).map num ++ wordsOf x)) space:=by
 obtain ⟨k,a,b,w⟩:=x
 obtain ⟨ha,hb,hk⟩:=h
 dsimp only at ha hb hk
 unfold deedT
 dsimp only
 rw [if_neg (by omega)]
 rcases hk with ⟨rfl,rfl,rfl⟩|⟨rfl,rfl,rfl,hw⟩|⟨rfl,hw⟩|⟨rfl,rfl⟩|⟨rfl,rfl,rfl,rfl⟩
 ·rw [if_pos ⟨rfl,rfl,rfl⟩]
  show (⟨#[98,111,100,121,32]⟩ ++ num a:ByteArray)=joinB [kindB 0,num a] space
  rw [joinB_two,show kindB 0 ++ space=⟨#[98,111,100,121,32]⟩ from rfl]
 ·have:=(plainW_no hw).1
  rw [if_neg (by omega),if_pos ⟨rfl,rfl,rfl,hw⟩]
  unfold wordsOf
  rw [if_neg this]
  show (⟨#[114,117,108,101,32]⟩ ++ w:ByteArray)=joinB [kindB 1,w] space
  rw [joinB_two,show kindB 1 ++ space=⟨#[114,117,108,101,32]⟩ from rfl]
 ·have:=(plainW_no hw).1
  rw [if_neg (by omega),if_neg (by omega),if_pos ⟨rfl,hw⟩]
  unfold wordsOf
  rw [if_neg this]
  show (⟨#[97,109,101,110,100,32]⟩ ++ num a ++ ⟨#[32]⟩ ++ num b ++ ⟨#[32]⟩ ++ w:ByteArray)=joinB [kindB 2,num a,num b,w] space
  rw [joinB_four,show kindB 2 ++ space=⟨#[97,109,101,110,100,32]⟩ from rfl]
  rfl
 ·rw [if_neg (by omega),if_neg (by omega),if_neg (by omega),if_pos ⟨rfl,rfl⟩]
  show (⟨#[100,114,111,112,32]⟩ ++ num a ++ ⟨#[32]⟩ ++ num b:ByteArray)=joinB [kindB 3,num a,num b] space
  rw [joinB_three,show kindB 3 ++ space=⟨#[100,114,111,112,32]⟩ from rfl]
  rfl
 ·rw [if_neg (by omega),if_neg (by omega),if_neg (by omega),if_neg (by omega),if_pos ⟨rfl,rfl,rfl,rfl⟩]
  rfl
theorem deedT_no {x:Dd} (h:¬ okDd x):deedT x=⟨#[]⟩:=by
 unfold deedT
 split
 ·rfl
 ·rename_i hr
  have ha:0≤x.a∧x.a≤99:=by omega
  have hb:0≤x.b∧x.b≤99:=by omega
  rw [if_neg fun q=>h ⟨ha,hb,.inl q⟩,if_neg fun q=>h ⟨ha,hb,.inr (.inl q)⟩,if_neg fun q=>h ⟨ha,hb,.inr (.inr (.inl q))⟩,if_neg fun q=>h ⟨ha,hb,.inr (.inr (.inr (.inl q)))⟩,if_neg fun q=>h ⟨ha,hb,.inr (.inr (.inr (.inr q)))⟩]
theorem kindB_no (k:Int):(32:UInt8) ∉ (kindB k).data.toList∧(10:UInt8) ∉ (kindB k).data.toList∧(kindB k).size≠0:=by
 unfold kindB
 (repeat' split) <;> decide
theorem num_no32 {n:Int} (h:0≤n):(32:UInt8) ∉ (num n).data.toList∧(10:UInt8) ∉ (num n).data.toList:=⟨vis_no (vis_num h) (by decide),vis_no (vis_num h) (by decide)⟩
theorem numsOf_mem {x:Dd} (h:okDd x):∀ n∈numsOf x,0≤n∧n≤99:=by
 unfold numsOf
 intro n hn
 split at hn
 ·rw [List.mem_singleton.1 hn]; exact h.a
 ·split at hn
  ·rcases List.mem_cons.1 hn with rfl|hn
   ·exact h.a
   ·rw [List.mem_singleton.1 hn]; exact h.b
  ·cases hn
theorem okDd_plain {x:Dd} (h:okDd x):x.words=⟨#[]⟩∨plainW x.words=true:=by
 rcases h.k with q|q|q|q|q
 ·exact .inl q.2.2
 ·exact .inr q.2.2.2
 ·exact .inr q.2
 ·exact .inl q.2
 ·exact .inl q.2.2.2
theorem parts_no {x:Dd} (h:okDd x):∀ y∈kindB x.kind :: ((numsOf x).map num ++ wordsOf x),(32:UInt8) ∉ y.data.toList∧(10:UInt8) ∉ y.data.toList:=by
 intro y hy
 rcases List.mem_cons.1 hy with rfl|hy
 ·exact ⟨(kindB_no _).1,(kindB_no _).2.1⟩
 ·rcases List.mem_append.1 hy with hy|hy
  ·obtain ⟨n,hn,rfl⟩:=List.mem_map.1 hy
   exact num_no32 (numsOf_mem h n hn).1
  ·unfold wordsOf at hy
   split at hy
   ·cases hy
   ·rename_i hw
    rw [List.mem_singleton.1 hy]
    have:=plainW_no ((okDd_plain h).resolve_left hw)
    exact this.2
theorem cut_deed {x:Dd} (h:okDd x):cutB (deedT x) 32=kindB x.kind :: ((numsOf x).map num ++ wordsOf x):=by
 rw [deedT_ok h]
 exact joinB_cut (c:=32) (List.cons_ne_nil _ _) fun y hy=>(parts_no h y hy).1
theorem mem_join {b:UInt8} {s:List UInt8}:∀ (l:List (List UInt8)),b∈Lib.join l s→b∈s∨∃ x∈l,b∈x:=by
 intro l
 induction l with
 |nil=>intro q; cases q
 |cons x l ih =>
  cases l with
  |nil=>rw [Lib.join_one]; exact fun q=>.inr ⟨x,List.mem_cons_self,q⟩
  |cons y r =>
   have e:Lib.join (x :: y :: r) s=x ++ (s ++ Lib.join (y :: r) s):=by
    unfold Lib.join List.intercalate
    rw [List.intersperse_cons_cons,List.flatten_cons,List.flatten_cons]
   rw [e]
   intro q
   rcases List.mem_append.1 q with q|q
   ·exact .inr ⟨x,List.mem_cons_self,q⟩
   ·rcases List.mem_append.1 q with q|q
    ·exact .inl q
    ·exact (ih q).imp id fun ⟨z,hz,hq⟩=>⟨z,List.mem_cons_of_mem _ hz,hq⟩
theorem deed_nl (x:Dd):(10:UInt8) ∉ (deedT x).data.toList:=by
 by_cases h:okDd x
 ·rw [deedT_ok h]
  intro q
  have q':(10:UInt8)∈Lib.join ((kindB x.kind :: ((numsOf x).map num ++ wordsOf x)).map (·.data.toList)) space.data.toList:=q
  rcases mem_join _ q' with q|⟨y,hy,q⟩
  ·have:(10:UInt8) ∉ space.data.toList:=by decide
   exact this q
  ·obtain ⟨z,hz,rfl⟩:=List.mem_map.1 hy
   exact (parts_no h z hz).2 q
 ·rw [deedT_no h]
  intro q
  cases q
theorem empty_cut:cutB ⟨#[]⟩ 32=[⟨#[]⟩]:=rfl
theorem okDd_ne {x:Dd} (h:okDd x):deedT x≠⟨#[]⟩:=fun e=>by
 have:=cut_deed h
 rw [e,empty_cut] at this
 injection this with e1 _
 have:=(kindB_no x.kind).2.2
 rw [← e1] at this
 exact this rfl
theorem ok_of_ne {x:Dd} (h:deedT x≠⟨#[]⟩):okDd x:=Classical.byContradiction fun q=>h (deedT_no q)
theorem kindB_inj {j k:Int} (hj:0≤j∧j≤4) (hk:0≤k∧k≤4) (h:kindB j=kindB k):j=k:=by
 rcases (show j=0∨j=1∨j=2∨j=3∨j=4 by omega) with rfl|rfl|rfl|rfl|rfl <;> rcases (show k=0∨k=1∨k=2∨k=3∨k=4 by omega) with rfl|rfl|rfl|rfl|rfl <;> first|rfl|exact absurd h (by decide)
theorem okDd_kind {x:Dd} (h:okDd x):0≤x.kind∧x.kind≤4:=by
 rcases h.k with q|q|q|q|q <;> omega
theorem num_inj' {m n:Int} (hm:0≤m) (hn:0≤n) (h:num m=num n):m=n:=by
 obtain ⟨k,rfl⟩:∃ k:Nat,m=k:=⟨m.toNat,by omega⟩
 exact num_inj hn h
theorem deed_inj {x y:Dd} (hx:okDd x) (hy:okDd y) (h:deedT x=deedT y):x=y:=by
 have e:=cut_deed hx
 rw [h,cut_deed hy] at e
 injection e with e1 e2
 have e1:=kindB_inj (okDd_kind hy) (okDd_kind hx) e1
 have kx:=hx.k
 have ky:=hy.k
 have ax:=hx.a
 have ay:=hy.a
 have bx:=hx.b
 have by':=hy.b
 obtain ⟨k,a,b,w⟩:=x
 obtain ⟨k',a',b',w'⟩:=y
 dsimp only at e1 kx ky ax ay bx by' e2
 subst e1
 have pw:∀ {w:ByteArray},plainW w=true→wordsOf ⟨k',a,b,w⟩=[w]:=fun h=>if_neg (plainW_no h).1
 have pw':∀ {w:ByteArray},plainW w=true→wordsOf ⟨k',a',b',w⟩=[w]:=fun h=>if_neg (plainW_no h).1
 rcases kx with ⟨rfl,q1,q2⟩|⟨rfl,q1,q2,q3⟩|⟨rfl,q1⟩|⟨rfl,q1⟩|⟨rfl,q1,q2,q3⟩
 ·rcases ky with ⟨_,r1,r2⟩|⟨r,_⟩|⟨r,_⟩|⟨r,_⟩|⟨r,_⟩ <;> first|exact absurd r (by decide)|skip
  subst q1 q2 r1 r2
  have e3:[num a']=[num a]:=e2
  injection e3 with e3 _
  rw [num_inj' ax.1 ay.1 e3.symm]
 ·rcases ky with ⟨r,_⟩|⟨_,r1,r2,r3⟩|⟨r,_⟩|⟨r,_⟩|⟨r,_⟩ <;> first|exact absurd r (by decide)|skip
  subst q1 q2 r1 r2
  rw [pw q3,pw' r3] at e2
  have e3:[w']=[w]:=e2
  injection e3 with e3 _
  rw [e3]
 ·rcases ky with ⟨r,_⟩|⟨r,_⟩|⟨_,r1⟩|⟨r,_⟩|⟨r,_⟩ <;> first|exact absurd r (by decide)|skip
  rw [pw q1,pw' r1] at e2
  have e3:[num a',num b',w']=[num a,num b,w]:=e2
  injection e3 with e3 e4
  injection e4 with e4 e5
  injection e5 with e5 _
  rw [num_inj' ax.1 ay.1 e3.symm,num_inj' bx.1 by'.1 e4.symm,e5]
 ·rcases ky with ⟨r,_⟩|⟨r,_⟩|⟨r,_⟩|⟨_,r1⟩|⟨r,_⟩ <;> first|exact absurd r (by decide)|skip
  subst q1 r1
  have e3:[num a',num b']=[num a,num b]:=e2
  injection e3 with e3 e4
  injection e4 with e4 _
  rw [num_inj' ax.1 ay.1 e3.symm,num_inj' bx.1 by'.1 e4.symm]
 ·rcases ky with ⟨r,_⟩|⟨r,_⟩|⟨r,_⟩|⟨r,_⟩|⟨_,r1,r2,r3⟩ <;> first|exact absurd r (by decide)|skip
  subst q1 q2 q3 r1 r2 r3
  rfl
/-! ### What a text tells -/
def isDd (s:ByteArray) (x:Dd):Prop:=okDd x∧deedT x=s
theorem isDd_one {s:ByteArray} {x y:Dd} (h:isDd s x) (g:isDd s y):x=y:=deed_inj h.1 g.1 (h.2.trans g.2.symm)
theorem isDd_cut {s:ByteArray} {x:Dd} (h:isDd s x):cutB s 32=kindB x.kind :: ((numsOf x).map num ++ wordsOf x):=by rw [← h.2]; exact cut_deed h.1
theorem isDd_of {s:ByteArray} {x:Dd} (h:deedT x=s) (hne:s≠⟨#[]⟩):isDd s x:=⟨ok_of_ne (by rw [h]; exact hne),h⟩
theorem isDd_ne {s:ByteArray} {x:Dd} (h:isDd s x):s≠⟨#[]⟩:=by rw [← h.2]; exact okDd_ne h.1
def ddPost (s:ByteArray) (K:AV→Prop):Prop:=(∀ x,isDd s x→K (.tup [ded x,.bool true]))∧((¬ ∃ x,isDd s x)→K (.tup [ded default,.bool false]))
theorem ddPost.mono {s:ByteArray} {K K2:AV→Prop} (hk:∀ r,K r→K2 r) (h:ddPost s K):ddPost s K2:=⟨fun x q=>hk _ (h.1 x q),fun q=>hk _ (h.2 q)⟩
/-! ### Journals -/
def lineL (x:Dd):List UInt8:=(deedT x).data.toList ++ [10]
def jl:List Dd→List UInt8
 |[]=>[]
 |x :: l=>lineL x ++ jl l
theorem jl_app (l m:List Dd):jl (l ++ m)=jl l ++ jl m:=by
 induction l with
 |nil=>rfl
 |cons x l ih=>show lineL x ++ jl (l ++ m)=lineL x ++ jl l ++ jl m; rw [ih,List.append_assoc]
theorem jl_one (x:Dd):jl [x]=lineL x:=List.append_nil _
structure isJr (s:List UInt8) (l:List Dd) (r:List UInt8):Prop where
 ok:∀ x∈l,okDd x
 eq:s=jl l ++ r
 stop:∀ x t,okDd x→r≠lineL x ++ t
theorem first_inj {c:UInt8}:∀ {p q t u:List UInt8},c ∉ p→c ∉ q→p ++ c :: t=q ++ c :: u→p=q∧t=u
 |[],[],t,u,_,_,h=>⟨rfl,by injection h⟩
 |[],b :: q,t,u,_,hq,h=>by
  injection h with h1 _
  exact absurd (h1 ▸ List.mem_cons_self) hq
 |a :: p,[],t,u,hp,_,h=>by
  injection h with h1 _
  exact absurd (h1 ▸ List.mem_cons_self) hp
 |a :: p,b :: q,t,u,hp,hq,h=>by
  injection h with h1 h2
  obtain ⟨e1,e2⟩:=first_inj (fun k=>hp (List.mem_cons_of_mem _ k)) (fun k=>hq (List.mem_cons_of_mem _ k)) h2
  exact ⟨by rw [h1,e1],e2⟩
theorem bytes_inj {s t:ByteArray} (h:s.data.toList=t.data.toList):s=t:=ByteArray.ext (Array.toList_inj.1 h)
theorem line_inj {x y:Dd} {t u:List UInt8} (hx:okDd x) (hy:okDd y) (h:lineL x ++ t=lineL y ++ u):x=y∧t=u:=by
 unfold lineL at h
 rw [List.append_assoc,List.append_assoc] at h
 obtain ⟨e1,e2⟩:=first_inj (deed_nl x) (deed_nl y) h
 exact ⟨deed_inj hx hy (bytes_inj e1),e2⟩
theorem isJr.cons {s:List UInt8} {l:List Dd} {r:List UInt8} {x:Dd} (hx:okDd x) (h:isJr s l r):isJr (lineL x ++ s) (x :: l) r :=
 ⟨fun y hy=>(List.mem_cons.1 hy).elim (fun e=>e ▸ hx) (h.ok y),by rw [h.eq]; exact (List.append_assoc ..).symm,h.stop⟩
theorem isJr.tail {s:List UInt8} {l:List Dd} {r:List UInt8} {x:Dd} (h:isJr (lineL x ++ s) (x :: l) r):isJr s l r :=
 ⟨fun y hy=>h.ok y (List.mem_cons_of_mem _ hy),by
  have:=h.eq
  rw [show jl (x :: l)=lineL x ++ jl l from rfl,List.append_assoc] at this
  exact List.append_cancel_left this,h.stop⟩
theorem isJr_one:∀ {l m:List Dd} {s r t:List UInt8},isJr s l r→isJr s m t→l=m∧r=t
 |[],[],s,r,t,h,g=>⟨rfl,by have:=h.eq; rw [g.eq] at this; exact this.symm⟩
 |[],y :: m,s,r,t,h,g=>by
  have e:r=lineL y ++ (jl m ++ t):=by
   have:=h.eq
   rw [g.eq] at this
   exact this.symm.trans (List.append_assoc ..)
  exact absurd e (h.stop y _ (g.ok y List.mem_cons_self))
 |x :: l,[],s,r,t,h,g=>by
  have e:t=lineL x ++ (jl l ++ r):=by
   have:=g.eq
   rw [h.eq] at this
   exact this.symm.trans (List.append_assoc ..)
  exact absurd e (g.stop x _ (h.ok x List.mem_cons_self))
 |x :: l,y :: m,s,r,t,h,g=>by
  have e:lineL x ++ (jl l ++ r)=lineL y ++ (jl m ++ t):=by
   have:=h.eq
   rw [g.eq] at this
   exact (List.append_assoc ..).symm.trans (this.symm.trans (List.append_assoc ..))
  obtain ⟨rfl,e2⟩:=line_inj (h.ok x List.mem_cons_self) (g.ok y List.mem_cons_self) e
  have h':isJr (jl l ++ r) l r:=⟨fun z hz=>h.ok z (List.mem_cons_of_mem _ hz),rfl,h.stop⟩
  have g':isJr (jl l ++ r) m t:=⟨fun z hz=>g.ok z (List.mem_cons_of_mem _ hz),e2,g.stop⟩
  obtain ⟨rfl,rfl⟩:=isJr_one h' g'
  exact ⟨rfl,rfl⟩
theorem isJr_ex:∀ (n:Nat) (s:List UInt8),s.length≤n→∃ l r,isJr s l r
 |n,s,hn=>by
  by_cases h:∃ x t,okDd x∧s=lineL x ++ t
  ·obtain ⟨x,t,hx,rfl⟩:=h
   cases n with
   |zero=>simp [lineL] at hn
   |succ n =>
    obtain ⟨l,r,g⟩:=isJr_ex n t (by simp [lineL] at hn; omega)
    exact ⟨x :: l,r,g.cons hx⟩
  ·exact ⟨[],s,fun _ q=>(by cases q),rfl,fun x t hx e=>h ⟨x,t,hx,e⟩⟩
theorem jr_has (s:ByteArray):∃ l r,isJr s.data.toList l r:=isJr_ex _ _ (Nat.le_refl _)
noncomputable def jr (s:ByteArray):List Dd:=Classical.choose (jr_has s)
noncomputable def jn (s:ByteArray):Nat:=(jl (jr s)).length
theorem jr_spec (s:ByteArray):∃ r,isJr s.data.toList (jr s) r:=Classical.choose_spec (jr_has s)
theorem jr_of {s:ByteArray} {l:List Dd} {r:List UInt8} (h:isJr s.data.toList l r):jr s=l∧jn s=(jl l).length:=by
 obtain ⟨t,ht⟩:=jr_spec s
 obtain ⟨e,_⟩:=isJr_one ht h
 exact ⟨e,by unfold jn; rw [e]⟩
theorem jn_le (s:ByteArray):jn s≤s.size:=by
 obtain ⟨t,ht⟩:=jr_spec s
 have:=congrArg List.length ht.eq
 rw [List.length_append,Array.length_toList] at this
 show (jl (jr s)).length≤s.data.size
 omega
theorem line_len (x:Dd):(lineL x).length=(deedT x).size+1:=by
 unfold lineL
 rw [List.length_append,Array.length_toList]
 rfl
theorem jl_len (l:List Dd):l.length≤(jl l).length:=by
 induction l with
 |nil=>exact Nat.le_refl _
 |cons x l ih =>
  show _≤(lineL x ++ jl l).length
  rw [List.length_append,line_len]
  simp only [List.length_cons]
  omega
theorem jr_len (s:ByteArray):(jr s).length≤s.size:=Nat.le_trans (jl_len _) (jn_le s)
theorem words_le {x:Dd} (h:okDd x):x.words.size≤(deedT x).size:=by
 rcases okDd_plain h with e|e
 ·rw [e]; exact Nat.zero_le _
 ·have hw:=(plainW_no e).1
  rcases h.k with q|q|q|q|q
  ·exact absurd q.2.2 hw
  ·unfold deedT
   rw [if_neg (by have:=h.a; have:=h.b; omega),if_neg (by omega),if_pos q,ByteArray.size_append]
   omega
  ·unfold deedT
   rw [if_neg (by have:=h.a; have:=h.b; omega),if_neg (by omega),if_neg (by omega),if_pos q]
   simp only [ByteArray.size_append]
   omega
  ·exact absurd q.2 hw
  ·exact absurd q.2.2.2 hw
theorem jl_mem {x:Dd}:∀ {l:List Dd},x∈l→(deedT x).size≤(jl l).length
 |y :: l,h=>by
  show _≤(lineL y ++ jl l).length
  rw [List.length_append,line_len]
  rcases List.mem_cons.1 h with rfl|h
  ·omega
  ·have:=jl_mem h
   omega
theorem jr_mem {s:ByteArray} {x:Dd} (h:x∈jr s):okDd x∧x.words.size≤s.size:=by
 obtain ⟨t,ht⟩:=jr_spec s
 exact ⟨ht.ok x h,Nat.le_trans (words_le (ht.ok x h)) (Nat.le_trans (jl_mem h) (jn_le s))⟩
theorem isJr_take:∀ {m l:List Dd} {s r t:List UInt8} {k:Nat},isJr s l r→isJr (s.take k) m t→m=l.take m.length∧m.length≤l.length∧(jl m).length≤k
 |[],l,s,r,t,k,_,_=>⟨rfl,Nat.zero_le _,Nat.zero_le _⟩
 |y :: m,l,s,r,t,k,h,g=>by
  have hy:=g.ok y List.mem_cons_self
  have e1:s.take k=lineL y ++ (jl m ++ t):=g.eq.trans (List.append_assoc ..)
  have e2:s=lineL y ++ ((jl m ++ t) ++ s.drop k):=by
   conv=>lhs; rw [← List.take_append_drop k s,e1]
   exact List.append_assoc ..
  have hk:(lineL y).length≤k:=by
   have:=congrArg List.length e1
   rw [List.length_append,List.length_take] at this
   omega
  cases l with
  |nil=>exact absurd (show r=lineL y ++ ((jl m ++ t) ++ s.drop k) from (show s=r from h.eq).symm.trans e2) (h.stop y _ hy)
  |cons x l =>
   have e3:lineL x ++ (jl l ++ r)=lineL y ++ ((jl m ++ t) ++ s.drop k):=(List.append_assoc ..).symm.trans (h.eq.symm.trans e2)
   obtain ⟨rfl,e4⟩:=line_inj (h.ok x List.mem_cons_self) hy e3
   have h':isJr (jl l ++ r) l r:=⟨fun z hz=>h.ok z (List.mem_cons_of_mem _ hz),rfl,h.stop⟩
   have e5:(jl l ++ r).take (k-(lineL x).length)=jl m ++ t:=by
    have e6:s=lineL x ++ (jl l ++ r):=h.eq.trans (List.append_assoc ..)
    rw [e6,List.take_append,List.take_of_length_le hk] at e1
    exact List.append_cancel_left e1
   have g':isJr ((jl l ++ r).take (k-(lineL x).length)) m t:=⟨fun z hz=>g.ok z (List.mem_cons_of_mem _ hz),e5,g.stop⟩
   obtain ⟨f1,f2,f3⟩:=isJr_take h' g'
   refine ⟨?_,by simp only [List.length_cons]; omega,?_⟩
   ·rw [List.length_cons,List.take_succ_cons,← f1]
   ·show (lineL x ++ jl m).length≤k
    rw [List.length_append]
    omega
theorem no_line {x:Dd} {t:List UInt8}:([]:List UInt8)≠lineL x ++ t:=fun e=>by
 have:=congrArg List.length e
 rw [List.length_append,line_len] at this
 simp only [List.length_nil] at this
 omega
theorem isJr_jl {l:List Dd} (h:∀ x∈l,okDd x):isJr (jl l) l []:=⟨h,(List.append_nil _).symm,fun _ _ _=>no_line⟩
theorem jtx_jl (l:List Dd):∀ i,i≤l.length→(jtx l i).data.toList=jl (l.take i)
 |0,_=>rfl
 |i+1,h=>by
  have ih:=jtx_jl l i (by omega)
  rw [take_succ' default (by omega),jl_app,jl_one,← ih]
  show (jtx l i ++ (deedT (l.getD i default) ++ ⟨#[10]⟩)).data.toList=(jtx l i).data.toList ++ ((deedT (l.getD i default)).data.toList ++ [10])
  rw [ByteArray.data_append,ByteArray.data_append,Array.toList_append,Array.toList_append]
theorem jT_jl {l:List Dd} (h:∀ x∈l,okDd x):(jT l).data.toList=jl l:=by
 rw [jT_yes fun i hi=>okDd_ne (h _ (getD_mem' hi)),jtx_jl l _ (Nat.le_refl _),List.take_length]
end Go.Proofs.YtapeebjjljohdaaGreatDoor.Vc
end
section
/- Part XC: deeds that are read, by both sides. -/
namespace Go.Proofs.YtapeebjjljohdaaGreatDoor.Vc
open Go.Proofs
set_option maxRecDepth 10000
set_option maxHeartbeats 4000000
/-! ### slices.Index -/
def C264:List AV→(AV→Prop)→Prop:=con (X:=List ByteArray × ByteArray) (fun x=>[slS x.1,.str x.2]) (fun x=>x.1.length<9223372036854775808) fun x K=>ixpost x.1.length (fun i=>x.1.getD i ⟨#[]⟩=x.2) K
theorem F264:FF 122 C264:=by
 refine fitX [] (by simp) [] (by simp) Tryz.f122 ⟨rfl,by decide +kernel,by decide +kernel⟩ (fun _ _ _ hk h i h1 h2 h3 h4=>hk _ (h i h1 h2 h3 h4)) ?_
 rintro ⟨l,x⟩ K h1 h
 refine ⟨Nat.le_of_ble_eq_true rfl,?_⟩
 dsimp only at h h1 ⊢
 repeat' (first|refine vz ?_|(conv=>whnf); first|with_reducible first|refine Sp.mk ?_ ?_|refine br_d (fun _=>?_) fun _=>?_|refine vM (fun _=>?_) fun _=>?_)
 refine Lp.mk ⟨Nat,fun i=>[(0,slS l),(1,.str x),(7,.int .i64 l.length),(8,.int .i64 i)],fun _=>[],fun i=>i≤l.length∧∀ j,j<i→l.getD j ⟨#[]⟩≠x,fun i=>l.length-i,⟨0,⟨Nat.zero_le _,fun j hj=>absurd hj (Nat.not_lt_zero _)⟩,⟨⟨[],[],rfl,rfl,?_,?_⟩⟩⟩,?_⟩
 ·exact wq
 ·exact wq
 rintro i ⟨i1,i2⟩
 dsimp only
 repeat' (first|refine vz ?_|(conv=>whnf); first|with_reducible first|refine Sp.mk ?_ ?_|refine br_d (fun _=>?_) fun _=>?_|refine vM (fun _=>?_) fun _=>?_)
 ·rename_i hi he
  replace he:x=l.getD i ⟨#[]⟩:=he
  exact h i (by omega) (by omega) (fun e=>by omega) (fun _=>he.symm)
 ·rename_i hi he
  replace he:¬ x=l.getD i ⟨#[]⟩:=he
  refine ⟨i+1,⟨by omega,fun j hj=>?_⟩,by omega,⟨⟨[],[],rfl,rfl,?_,?_⟩⟩⟩
  ·by_cases e:j=i
   ·subst e; exact fun q=>he q.symm
   ·exact i2 j (by omega)
  ·exact wq
  ·exact wq
 ·rename_i hi
  exact h (-1) (by omega) (by omega) (fun _ j hj=>i2 j (by omega)) (fun e=>absurd e (by decide))
/-! ### The implementation's -/
theorem wordsOf_kind {x:Dd} (h:okDd x):(wordsOf x=[]∧x.words=⟨#[]⟩∧(x.kind=0∨x.kind=3∨x.kind=4))∨(wordsOf x=[x.words]∧x.words≠⟨#[]⟩∧(x.kind=1∨x.kind=2)):=by
 unfold wordsOf
 rcases h.k with q|q|q|q|q
 ·exact .inl ⟨if_pos q.2.2,q.2.2,.inl q.1⟩
 ·have:=(plainW_no q.2.2.2).1
  exact .inr ⟨if_neg this,this,.inl q.1⟩
 ·have:=(plainW_no q.2).1
  exact .inr ⟨if_neg this,this,.inr q.1⟩
 ·exact .inl ⟨if_pos q.2,q.2,.inr (.inl q.1)⟩
 ·exact .inl ⟨if_pos q.2.2.2,q.2.2.2,.inr (.inr q.1)⟩
theorem num_nat {n:Int} (h:0≤n∧n≤99):∃ m:Nat,m<1000000∧num n=num (m:Int)∧n=m:=⟨n.toNat,by omega,by rw [Int.toNat_of_nonneg h.1],by omega⟩
theorem numsOf_ab {x:Dd} (h:okDd x):(numsOf x).length≤2∧((numsOf x).length<1→x.a=0)∧((numsOf x).length<2→x.b=0)∧(1≤(numsOf x).length→(numsOf x).getD 0 0=x.a)∧(2≤(numsOf x).length→(numsOf x).getD 1 0=x.b):=by
 unfold numsOf
 rcases h.k with q|q|q|q|q
 ·rw [if_pos q.1]
  exact ⟨by simp,fun h=>absurd h (by simp),fun _=>q.2.1,fun _=>rfl,fun h=>absurd h (by simp)⟩
 ·rw [if_neg (by omega),if_neg (by omega)]
  exact ⟨by simp,fun _=>q.2.1,fun _=>q.2.2.1,fun h=>absurd h (by simp),fun h=>absurd h (by simp)⟩
 ·rw [if_neg (by omega),if_pos (.inl q.1)]
  exact ⟨by simp,fun h=>absurd h (by simp),fun h=>absurd h (by simp),fun _=>rfl,fun _=>rfl⟩
 ·rw [if_neg (by omega),if_pos (.inr q.1)]
  exact ⟨by simp,fun h=>absurd h (by simp),fun h=>absurd h (by simp),fun _=>rfl,fun _=>rfl⟩
 ·rw [if_neg (by omega),if_neg (by omega)]
  exact ⟨by simp,fun _=>q.2.1,fun _=>q.2.2.1,fun h=>absurd h (by simp),fun h=>absurd h (by simp)⟩
theorem kinds5 (z:List AV):∀ i,i<5→[[AV.str ⟨#[98,111,100,121]⟩],[.str ⟨#[114,117,108,101]⟩],[.str ⟨#[97,109,101,110,100]⟩],[.str ⟨#[100,114,111,112]⟩],[.str ⟨#[98,97,99,107]⟩]].getD (0+i) z=encS ([kindB 0,kindB 1,kindB 2,kindB 3,kindB 4].getD i ⟨#[]⟩):=fun i hi=>by
 rcases (show i=0∨i=1∨i=2∨i=3∨i=4 by omega) with rfl|rfl|rfl|rfl|rfl <;> rfl
theorem rd_k {x:Dd} {L:List ByteArray} {k:Int} (hL:L=kindB x.kind :: ((numsOf x).map num ++ wordsOf x)) (h:okDd x) (hk:kindB k=L.getD 0 ⟨#[]⟩) (h0:0≤k∧k≤4):x.kind=k:=by
 rw [hL] at hk
 exact (kindB_inj h0 (okDd_kind h) hk).symm
theorem rd_w0 {x:Dd} {L:List ByteArray} (hL:L=kindB x.kind :: ((numsOf x).map num ++ wordsOf x)) (h:okDd x) (hk:x.kind=0∨x.kind=3∨x.kind=4):x.words=⟨#[]⟩∧L.drop 1=(numsOf x).map num:=by
 rcases wordsOf_kind h with ⟨q1,q2,_⟩|⟨_,_,q3⟩
 ·refine ⟨q2,?_⟩
  rw [hL,q1,List.append_nil]
  rfl
 ·omega
theorem rd_w1 {x:Dd} {L:List ByteArray} (hL:L=kindB x.kind :: ((numsOf x).map num ++ wordsOf x)) (h:okDd x) (hk:x.kind=1∨x.kind=2):x.words≠⟨#[]⟩∧L.getD (L.length-1) ⟨#[]⟩=x.words∧(L.drop 1).take (L.length-2)=(numsOf x).map num:=by
 rcases wordsOf_kind h with ⟨_,_,q3⟩|⟨q1,q2,_⟩
 ·omega
 ·rw [q1] at hL
  have hlen:L.length=(numsOf x).length+2:=by rw [hL]; simp only [List.length_cons,List.length_append,List.length_map,List.length_nil]
  refine ⟨q2,?_,?_⟩
  ·rw [hlen,hL,show (numsOf x).length+2-1=(numsOf x).length+1 by omega,List.getD_cons_succ,List.getD_eq_getElem?_getD,List.getElem?_append_right (by rw [List.length_map]; exact Nat.le_refl _),List.length_map,Nat.sub_self]
   rfl
  ·rw [hlen,hL,show (numsOf x).length+2-2=(numsOf x).length by omega]
   show ((numsOf x).map num ++ [x.words]).take _=_
   rw [← List.length_map (f:=num),List.take_left]
theorem cnt_of {x:Dd} {L:List ByteArray} (hL:L=kindB x.kind :: ((numsOf x).map num ++ wordsOf x)) (h:okDd x):(x.kind=0→L.length=2)∧(x.kind=1→L.length=2)∧(x.kind=2→L.length=4)∧(x.kind=3→L.length=3)∧(x.kind=4→L.length=1):=by
 have hl:L.length=1+((numsOf x).length+(wordsOf x).length):=by rw [hL]; simp only [List.length_cons,List.length_append,List.length_map]; omega
 have hn:(x.kind=0→(numsOf x).length=1)∧(x.kind=2→(numsOf x).length=2)∧(x.kind=3→(numsOf x).length=2)∧(x.kind=1→(numsOf x).length=0)∧(x.kind=4→(numsOf x).length=0):=by
  unfold numsOf
  refine ⟨fun e=>?_,fun e=>?_,fun e=>?_,fun e=>?_,fun e=>?_⟩
  ·rw [if_pos e]; rfl
  ·rw [if_neg (by omega),if_pos (.inl e)]; rfl
  ·rw [if_neg (by omega),if_pos (.inr e)]; rfl
  ·rw [if_neg (by omega),if_neg (by omega)]; rfl
  ·rw [if_neg (by omega),if_neg (by omega)]; rfl
 rcases wordsOf_kind h with ⟨q1,_,q3⟩|⟨q1,_,q3⟩
 ·rw [q1] at hl
  simp only [List.length_nil] at hl
  omega
 ·rw [q1] at hl
  simp only [List.length_cons,List.length_nil] at hl
  omega
structure RdN (s:ByteArray) (k:Int) (W:ByteArray) (N:List ByteArray):Prop where
 k0:0≤k
 k4:k≤4
 ne:s≠⟨#[]⟩
 ws:W.size≤s.size
 nl:N.length≤3
 ns:∀ y∈N,y.size≤s.size
 x:∀ x,isDd s x→x.kind=k∧x.words=W∧N=(numsOf x).map num
theorem dropW_ext {L:List ByteArray} {n:Nat} (h:n=L.length):(L.drop 1).length=n-Int.toNat 1∧∀ i,i<(L.drop 1).length→encS ((L.drop 1).getD i ⟨#[]⟩)=encS (L.getD (Int.toNat 1+i) ⟨#[]⟩):=⟨by rw [List.length_drop,h]; rfl,fun i _=>by
 rw [List.getD_eq_getElem?_getD,List.getElem?_drop,← List.getD_eq_getElem?_getD]
 rfl⟩
theorem takeW_ext {L:List ByteArray} {n:Nat} (h:n=L.length-1) (h2:2≤L.length):((L.drop 1).take (L.length-2)).length=n-Int.toNat 1∧∀ i,i<((L.drop 1).take (L.length-2)).length→encS (((L.drop 1).take (L.length-2)).getD i ⟨#[]⟩)=encS (L.getD (Int.toNat 1+i) ⟨#[]⟩):=⟨by rw [List.length_take,List.length_drop,h]; show _=L.length-1-1; omega,fun i hi=>by
 rw [List.length_take,List.length_drop] at hi
 rw [List.getD_eq_getElem?_getD,List.getElem?_take_of_lt (by omega),List.getElem?_drop,← List.getD_eq_getElem?_getD]
 rfl⟩
def C258:List AV→(AV→Prop)→Prop:=con (X:=ByteArray) (fun s=>[.str s]) (fun s=>s.size≤1048576) ddPost
theorem F258:FF 78 C258:=by
 refine fitX [(85,C211),(122,C264),(86,C213),(55,C103)] (by simp only [List.mem_cons,List.not_mem_nil,or_false]; rintro _ (rfl|rfl|rfl|rfl) <;> first|exact F211|exact F264|exact F213|exact F103) [] (by simp) Tryz.f78 ⟨rfl,by decide +kernel,by decide +kernel⟩ (fun _ _ _ hk h=>h.mono hk) ?_
 rintro s K hs ⟨h,hno⟩
 refine ⟨Nat.le_of_ble_eq_true rfl,?_⟩
 repeat' (first|refine vz ?_|(conv=>whnf); first|with_reducible first|refine Sp.mk ?_ ?_|refine br_d (fun _=>?_) fun _=>?_|refine vM (fun _=>?_) fun _=>?_)
 refine ⟨(s,32),?_,⟨by dsimp only; omega⟩,?_⟩
 ·exact wq
 obtain ⟨L,hL⟩:∃ L,cutB s 32=L:=⟨_,rfl⟩
 have hl:=cutB_len s 32
 have hlm:∀ x∈L,x.size≤s.size:=fun x hx=>cutB_mem (c:=32) (hL ▸ hx)
 have hX:∀ x,isDd s x→L=kindB x.kind :: ((numsOf x).map num ++ wordsOf x):=fun x q=>hL ▸ isDd_cut q
 have hsne:∀ k,kindB k=L.getD 0 ⟨#[]⟩→s≠⟨#[]⟩:=fun k q e=>by
  rw [e,empty_cut] at hL
  rw [← hL] at q
  have:=(kindB_no k).2.2
  rw [q] at this
  exact this rfl
 dsimp only
 rw [hL] at hl ⊢
 repeat' (first|refine vz ?_|(conv=>whnf); first|with_reducible first|refine Sp.mk ?_ ?_|refine br_d (fun _=>?_) fun _=>?_|refine vM (fun _=>?_) fun _=>?_)
 refine ⟨([kindB 0,kindB 1,kindB 2,kindB 3,kindB 4],L.getD 0 ⟨#[]⟩),?_,⟨show (5:Nat)<_ by decide⟩,?_⟩
 ·repeat' ((conv=>whnf); first|with_reducible exact True.intro|exact vW|with_reducible refine And.intro ?_ ?_)
  all_goals exact Chk.mk ⟨rfl,kinds5 _⟩
 intro i g1 g2 g3 g4
 dsimp only at g3 g4 ⊢
 have g2':i<5:=g2
 have hee:(⟨#[]⟩:ByteArray)=⟨#[]⟩:=rfl
 apply later
 ·intro key
  rcases (show i=-1∨i=0∨i=1∨i=2∨i=3∨i=4 by omega) with rfl|rfl|rfl|rfl|rfl|rfl
  ·repeat' (first|refine vz ?_|(conv=>whnf); first|with_reducible first|refine Sp.mk ?_ ?_|refine br_d (fun _=>?_) fun _=>?_|refine vM (fun _=>?_) fun _=>?_)
   refine hno fun ⟨x,q⟩=>?_
   have e:=hX x q
   have hk:=okDd_kind q.1
   have:=g3 rfl x.kind.toNat (by show _<5; omega)
   rw [e] at this
   refine this ?_
   show [kindB 0,kindB 1,kindB 2,kindB 3,kindB 4].getD x.kind.toNat ⟨#[]⟩=kindB x.kind
   rcases (show x.kind=0∨x.kind=1∨x.kind=2∨x.kind=3∨x.kind=4 by omega) with r|r|r|r|r <;> rw [r] <;> rfl
  ·replace g4:kindB 0=L.getD 0 ⟨#[]⟩:=g4 (by decide)
   have hxk:∀ x,isDd s x→x.kind=0:=fun x q=>rd_k (hX x q) q.1 g4 (by decide)
   have hx0:∀ x,isDd s x→x.words=⟨#[]⟩∧L.drop 1=(numsOf x).map num:=fun x q=>rd_w0 (hX x q) q.1 (by have:=hxk x q; omega)
   repeat' ((conv=>whnf); first|with_reducible refine wk_at 13 ?_|with_reducible refine wk_at1 13 ?_|with_reducible refine wk_at2 13 ?_|refine vA ?_|with_reducible first|refine v8 ?_|refine Sp.mk ?_ ?_|refine vS ?_|refine vR ?_|refine vB ?_|refine br_nt ?_|refine br_tt ?_|refine br_ff ?_|refine vP ?_|refine vQ ?_|refine vT ?_|refine vF ?_|refine br_and ?_|refine br_or ?_|refine br_d (fun _=>?_) fun _=>?_|refine vM (fun _=>?_) fun _=>?_)
   ·rename_i q1
    have hR:RdN s 0 ⟨#[]⟩ (L.drop 1):=⟨by decide,by decide,hsne _ g4,(Nat.zero_le _),(by rw [List.length_drop]; omega),(fun y hy=>hlm y (List.mem_of_mem_drop hy)),fun x q=>⟨hxk x q,(hx0 x q).1.symm ▸ rfl,(hx0 x q).2⟩⟩
    obtain ⟨k,hk⟩:∃ k:Int,k=0:=⟨_,rfl⟩
    obtain ⟨W,hW⟩:∃ W:ByteArray,W=⟨#[]⟩:=⟨_,rfl⟩
    obtain ⟨N,hN⟩:∃ N:List ByteArray,N=(L.drop 1):=⟨_,rfl⟩
    have hNe:=(dropW_ext (L:=L) rfl)
    refine ⟨Wk.go [(0,.str s),(2,.ptr 0 0),(8,.ptr 1 0),(9,slS N)] [.box [.int .i64 0,.int .i64 0,.int .i64 0,.str ⟨#[]⟩],.box [.int .i64 k,.int .i64 0,.int .i64 0,.str W]] ⟨⟨[some 0,some 3],[],rfl,rfl,?_,?_⟩⟩ ?_⟩
    ·subst hN
     repeat' ((conv=>whnf); first|with_reducible exact True.intro|exact vW|with_reducible refine And.intro ?_ ?_)
     all_goals exact Chk.mk hNe
    ·subst hW hk
     repeat' ((conv=>whnf); first|with_reducible exact True.intro|exact vW|with_reducible refine And.intro ?_ ?_)
    rw [← hk,← hW,← hN] at hR
    clear hk hW hN hNe
    revert k W N
    exact key.t
   ·rename_i q1
    exact hno fun ⟨x,q⟩=>by have:=cnt_of (hX x q) q.1; have:=hxk x q; omega
  ·replace g4:kindB 1=L.getD 0 ⟨#[]⟩:=g4 (by decide)
   have hxk:∀ x,isDd s x→x.kind=1:=fun x q=>rd_k (hX x q) q.1 g4 (by decide)
   have hx1:∀ x,isDd s x→x.words≠⟨#[]⟩∧L.getD (L.length-1) ⟨#[]⟩=x.words∧(L.drop 1).take (L.length-2)=(numsOf x).map num:=fun x q=>rd_w1 (hX x q) q.1 (by have:=hxk x q; omega)
   have hlast:((L.length:Int)-1).toNat=L.length-1:=by omega
   have hlw:(L.getD (L.length-1) ⟨#[]⟩).size≤s.size:=hlm _ (getD_mem' (by omega))
   repeat' ((conv=>whnf); first|with_reducible refine wk_at 13 ?_|with_reducible refine wk_at1 13 ?_|with_reducible refine wk_at2 13 ?_|refine vA ?_|with_reducible first|refine v8 ?_|refine Sp.mk ?_ ?_|refine vS ?_|refine vR ?_|refine vB ?_|refine br_nt ?_|refine br_tt ?_|refine br_ff ?_|refine vP ?_|refine vQ ?_|refine vT ?_|refine vF ?_|refine br_and ?_|refine br_or ?_|refine br_d (fun _=>?_) fun _=>?_|refine vM (fun _=>?_) fun _=>?_)
   ·rename_i q1 q2
    rw [hlast] at q2 ⊢
    have hR:RdN s 1 (L.getD (L.length-1) ⟨#[]⟩) (L.drop 1):=⟨by decide,by decide,hsne _ g4,hlw,(by rw [List.length_drop]; omega),(fun y hy=>hlm y (List.mem_of_mem_drop hy)),fun x q=>absurd ((hx1 x q).2.1.symm.trans q2) (hx1 x q).1⟩
    obtain ⟨k,hk⟩:∃ k:Int,k=1:=⟨_,rfl⟩
    obtain ⟨W,hW⟩:∃ W:ByteArray,W=(L.getD (L.length-1) ⟨#[]⟩):=⟨_,rfl⟩
    obtain ⟨N,hN⟩:∃ N:List ByteArray,N=(L.drop 1):=⟨_,rfl⟩
    have hNe:=(dropW_ext (L:=L) rfl)
    refine ⟨Wk.go [(0,.str s),(2,.ptr 0 0),(8,.ptr 1 0),(9,slS N)] [.box [.int .i64 0,.int .i64 0,.int .i64 0,.str ⟨#[]⟩],.box [.int .i64 k,.int .i64 0,.int .i64 0,.str W]] ⟨⟨[some 0,some 3],[],rfl,rfl,?_,?_⟩⟩ ?_⟩
    ·subst hN
     repeat' ((conv=>whnf); first|with_reducible exact True.intro|exact vW|with_reducible refine And.intro ?_ ?_)
     all_goals exact Chk.mk hNe
    ·subst hW hk
     repeat' ((conv=>whnf); first|with_reducible exact True.intro|exact vW|with_reducible refine And.intro ?_ ?_)
    rw [← hk,← hW,← hN] at hR
    clear hk hW hN hNe
    revert k W N
    exact key.t
   ·rename_i q1 q2
    rw [hlast] at q2 ⊢
    have hR:RdN s 1 (L.getD (L.length-1) ⟨#[]⟩) ((L.drop 1).take (L.length-2)):=⟨by decide,by decide,hsne _ g4,hlw,(by rw [List.length_take,List.length_drop]; omega),(fun y hy=>hlm y (List.mem_of_mem_drop (List.mem_of_mem_take hy))),fun x q=>⟨hxk x q,(hx1 x q).2.1.symm,(hx1 x q).2.2⟩⟩
    obtain ⟨k,hk⟩:∃ k:Int,k=1:=⟨_,rfl⟩
    obtain ⟨W,hW⟩:∃ W:ByteArray,W=(L.getD (L.length-1) ⟨#[]⟩):=⟨_,rfl⟩
    obtain ⟨N,hN⟩:∃ N:List ByteArray,N=((L.drop 1).take (L.length-2)):=⟨_,rfl⟩
    have hNe:=(takeW_ext (L:=L) rfl (by omega))
    refine ⟨Wk.go [(0,.str s),(2,.ptr 0 0),(8,.ptr 1 0),(9,slS N)] [.box [.int .i64 0,.int .i64 0,.int .i64 0,.str ⟨#[]⟩],.box [.int .i64 k,.int .i64 0,.int .i64 0,.str W]] ⟨⟨[some 0,some 3],[],rfl,rfl,?_,?_⟩⟩ ?_⟩
    ·subst hN
     repeat' ((conv=>whnf); first|with_reducible exact True.intro|exact vW|with_reducible refine And.intro ?_ ?_)
     all_goals exact Chk.mk hNe
    ·subst hW hk
     repeat' ((conv=>whnf); first|with_reducible exact True.intro|exact vW|with_reducible refine And.intro ?_ ?_)
    rw [← hk,← hW,← hN] at hR
    clear hk hW hN hNe
    revert k W N
    exact key.t
   ·rename_i q1
    exact hno fun ⟨x,q⟩=>by have:=cnt_of (hX x q) q.1; have:=hxk x q; omega
  ·replace g4:kindB 2=L.getD 0 ⟨#[]⟩:=g4 (by decide)
   have hxk:∀ x,isDd s x→x.kind=2:=fun x q=>rd_k (hX x q) q.1 g4 (by decide)
   have hx1:∀ x,isDd s x→x.words≠⟨#[]⟩∧L.getD (L.length-1) ⟨#[]⟩=x.words∧(L.drop 1).take (L.length-2)=(numsOf x).map num:=fun x q=>rd_w1 (hX x q) q.1 (by have:=hxk x q; omega)
   have hlast:((L.length:Int)-1).toNat=L.length-1:=by omega
   have hlw:(L.getD (L.length-1) ⟨#[]⟩).size≤s.size:=hlm _ (getD_mem' (by omega))
   repeat' ((conv=>whnf); first|with_reducible refine wk_at 13 ?_|with_reducible refine wk_at1 13 ?_|with_reducible refine wk_at2 13 ?_|refine vA ?_|with_reducible first|refine v8 ?_|refine Sp.mk ?_ ?_|refine vS ?_|refine vR ?_|refine vB ?_|refine br_nt ?_|refine br_tt ?_|refine br_ff ?_|refine vP ?_|refine vQ ?_|refine vT ?_|refine vF ?_|refine br_and ?_|refine br_or ?_|refine br_d (fun _=>?_) fun _=>?_|refine vM (fun _=>?_) fun _=>?_)
   ·rename_i q1 q2
    rw [hlast] at q2 ⊢
    have hR:RdN s 2 (L.getD (L.length-1) ⟨#[]⟩) (L.drop 1):=⟨by decide,by decide,hsne _ g4,hlw,(by rw [List.length_drop]; omega),(fun y hy=>hlm y (List.mem_of_mem_drop hy)),fun x q=>absurd ((hx1 x q).2.1.symm.trans q2) (hx1 x q).1⟩
    obtain ⟨k,hk⟩:∃ k:Int,k=2:=⟨_,rfl⟩
    obtain ⟨W,hW⟩:∃ W:ByteArray,W=(L.getD (L.length-1) ⟨#[]⟩):=⟨_,rfl⟩
    obtain ⟨N,hN⟩:∃ N:List ByteArray,N=(L.drop 1):=⟨_,rfl⟩
    have hNe:=(dropW_ext (L:=L) rfl)
    refine ⟨Wk.go [(0,.str s),(2,.ptr 0 0),(8,.ptr 1 0),(9,slS N)] [.box [.int .i64 0,.int .i64 0,.int .i64 0,.str ⟨#[]⟩],.box [.int .i64 k,.int .i64 0,.int .i64 0,.str W]] ⟨⟨[some 0,some 3],[],rfl,rfl,?_,?_⟩⟩ ?_⟩
    ·subst hN
     repeat' ((conv=>whnf); first|with_reducible exact True.intro|exact vW|with_reducible refine And.intro ?_ ?_)
     all_goals exact Chk.mk hNe
    ·subst hW hk
     repeat' ((conv=>whnf); first|with_reducible exact True.intro|exact vW|with_reducible refine And.intro ?_ ?_)
    rw [← hk,← hW,← hN] at hR
    clear hk hW hN hNe
    revert k W N
    exact key.t
   ·rename_i q1 q2
    rw [hlast] at q2 ⊢
    have hR:RdN s 2 (L.getD (L.length-1) ⟨#[]⟩) ((L.drop 1).take (L.length-2)):=⟨by decide,by decide,hsne _ g4,hlw,(by rw [List.length_take,List.length_drop]; omega),(fun y hy=>hlm y (List.mem_of_mem_drop (List.mem_of_mem_take hy))),fun x q=>⟨hxk x q,(hx1 x q).2.1.symm,(hx1 x q).2.2⟩⟩
    obtain ⟨k,hk⟩:∃ k:Int,k=2:=⟨_,rfl⟩
    obtain ⟨W,hW⟩:∃ W:ByteArray,W=(L.getD (L.length-1) ⟨#[]⟩):=⟨_,rfl⟩
    obtain ⟨N,hN⟩:∃ N:List ByteArray,N=((L.drop 1).take (L.length-2)):=⟨_,rfl⟩
    have hNe:=(takeW_ext (L:=L) rfl (by omega))
    refine ⟨Wk.go [(0,.str s),(2,.ptr 0 0),(8,.ptr 1 0),(9,slS N)] [.box [.int .i64 0,.int .i64 0,.int .i64 0,.str ⟨#[]⟩],.box [.int .i64 k,.int .i64 0,.int .i64 0,.str W]] ⟨⟨[some 0,some 3],[],rfl,rfl,?_,?_⟩⟩ ?_⟩
    ·subst hN
     repeat' ((conv=>whnf); first|with_reducible exact True.intro|exact vW|with_reducible refine And.intro ?_ ?_)
     all_goals exact Chk.mk hNe
    ·subst hW hk
     repeat' ((conv=>whnf); first|with_reducible exact True.intro|exact vW|with_reducible refine And.intro ?_ ?_)
    rw [← hk,← hW,← hN] at hR
    clear hk hW hN hNe
    revert k W N
    exact key.t
   ·rename_i q1
    exact hno fun ⟨x,q⟩=>by have:=cnt_of (hX x q) q.1; have:=hxk x q; omega
  ·replace g4:kindB 3=L.getD 0 ⟨#[]⟩:=g4 (by decide)
   have hxk:∀ x,isDd s x→x.kind=3:=fun x q=>rd_k (hX x q) q.1 g4 (by decide)
   have hx0:∀ x,isDd s x→x.words=⟨#[]⟩∧L.drop 1=(numsOf x).map num:=fun x q=>rd_w0 (hX x q) q.1 (by have:=hxk x q; omega)
   repeat' ((conv=>whnf); first|with_reducible refine wk_at 13 ?_|with_reducible refine wk_at1 13 ?_|with_reducible refine wk_at2 13 ?_|refine vA ?_|with_reducible first|refine v8 ?_|refine Sp.mk ?_ ?_|refine vS ?_|refine vR ?_|refine vB ?_|refine br_nt ?_|refine br_tt ?_|refine br_ff ?_|refine vP ?_|refine vQ ?_|refine vT ?_|refine vF ?_|refine br_and ?_|refine br_or ?_|refine br_d (fun _=>?_) fun _=>?_|refine vM (fun _=>?_) fun _=>?_)
   ·rename_i q1
    have hR:RdN s 3 ⟨#[]⟩ (L.drop 1):=⟨by decide,by decide,hsne _ g4,(Nat.zero_le _),(by rw [List.length_drop]; omega),(fun y hy=>hlm y (List.mem_of_mem_drop hy)),fun x q=>⟨hxk x q,(hx0 x q).1.symm ▸ rfl,(hx0 x q).2⟩⟩
    obtain ⟨k,hk⟩:∃ k:Int,k=3:=⟨_,rfl⟩
    obtain ⟨W,hW⟩:∃ W:ByteArray,W=⟨#[]⟩:=⟨_,rfl⟩
    obtain ⟨N,hN⟩:∃ N:List ByteArray,N=(L.drop 1):=⟨_,rfl⟩
    have hNe:=(dropW_ext (L:=L) rfl)
    refine ⟨Wk.go [(0,.str s),(2,.ptr 0 0),(8,.ptr 1 0),(9,slS N)] [.box [.int .i64 0,.int .i64 0,.int .i64 0,.str ⟨#[]⟩],.box [.int .i64 k,.int .i64 0,.int .i64 0,.str W]] ⟨⟨[some 0,some 3],[],rfl,rfl,?_,?_⟩⟩ ?_⟩
    ·subst hN
     repeat' ((conv=>whnf); first|with_reducible exact True.intro|exact vW|with_reducible refine And.intro ?_ ?_)
     all_goals exact Chk.mk hNe
    ·subst hW hk
     repeat' ((conv=>whnf); first|with_reducible exact True.intro|exact vW|with_reducible refine And.intro ?_ ?_)
    rw [← hk,← hW,← hN] at hR
    clear hk hW hN hNe
    revert k W N
    exact key.t
   ·rename_i q1
    exact hno fun ⟨x,q⟩=>by have:=cnt_of (hX x q) q.1; have:=hxk x q; omega
  ·replace g4:kindB 4=L.getD 0 ⟨#[]⟩:=g4 (by decide)
   have hxk:∀ x,isDd s x→x.kind=4:=fun x q=>rd_k (hX x q) q.1 g4 (by decide)
   have hx0:∀ x,isDd s x→x.words=⟨#[]⟩∧L.drop 1=(numsOf x).map num:=fun x q=>rd_w0 (hX x q) q.1 (by have:=hxk x q; omega)
   repeat' ((conv=>whnf); first|with_reducible refine wk_at 13 ?_|with_reducible refine wk_at1 13 ?_|with_reducible refine wk_at2 13 ?_|refine vA ?_|with_reducible first|refine v8 ?_|refine Sp.mk ?_ ?_|refine vS ?_|refine vR ?_|refine vB ?_|refine br_nt ?_|refine br_tt ?_|refine br_ff ?_|refine vP ?_|refine vQ ?_|refine vT ?_|refine vF ?_|refine br_and ?_|refine br_or ?_|refine br_d (fun _=>?_) fun _=>?_|refine vM (fun _=>?_) fun _=>?_)
   ·rename_i q1
    have hR:RdN s 4 ⟨#[]⟩ (L.drop 1):=⟨by decide,by decide,hsne _ g4,(Nat.zero_le _),(by rw [List.length_drop]; omega),(fun y hy=>hlm y (List.mem_of_mem_drop hy)),fun x q=>⟨hxk x q,(hx0 x q).1.symm ▸ rfl,(hx0 x q).2⟩⟩
    obtain ⟨k,hk⟩:∃ k:Int,k=4:=⟨_,rfl⟩
    obtain ⟨W,hW⟩:∃ W:ByteArray,W=⟨#[]⟩:=⟨_,rfl⟩
    obtain ⟨N,hN⟩:∃ N:List ByteArray,N=(L.drop 1):=⟨_,rfl⟩
    have hNe:=(dropW_ext (L:=L) rfl)
    refine ⟨Wk.go [(0,.str s),(2,.ptr 0 0),(8,.ptr 1 0),(9,slS N)] [.box [.int .i64 0,.int .i64 0,.int .i64 0,.str ⟨#[]⟩],.box [.int .i64 k,.int .i64 0,.int .i64 0,.str W]] ⟨⟨[some 0,some 3],[],rfl,rfl,?_,?_⟩⟩ ?_⟩
    ·subst hN
     repeat' ((conv=>whnf); first|with_reducible exact True.intro|exact vW|with_reducible refine And.intro ?_ ?_)
     all_goals exact Chk.mk hNe
    ·subst hW hk
     repeat' ((conv=>whnf); first|with_reducible exact True.intro|exact vW|with_reducible refine And.intro ?_ ?_)
    rw [← hk,← hW,← hN] at hR
    clear hk hW hN hNe
    revert k W N
    exact key.t
   ·rename_i q1
    exact hno fun ⟨x,q⟩=>by have:=cnt_of (hX x q) q.1; have:=hxk x q; omega
 intro k W N hR
 obtain ⟨k0,k4,hne,ws,nl,ns,hx⟩:=hR
 have hxl:∀ x,isDd s x→(numsOf x).length=N.length:=fun x q=>by rw [(hx x q).2.2,List.length_map]
 have hxn:∀ x,isDd s x→∀ i,i<N.length→∃ m:Nat,m<1000000∧N.getD i ⟨#[]⟩=num (m:Int)∧(numsOf x).getD i 0=m:=fun x q i hi=>by
  have hl:=hxl x q
  have hm:=numsOf_mem q.1 _ (getD_mem' (l:=numsOf x) (i:=i) (d:=0) (by omega))
  obtain ⟨m,m1,m2,m3⟩:=num_nat hm
  refine ⟨m,m1,?_,m3⟩
  rw [← m2,(hx x q).2.2,List.getD_eq_getElem?_getD,List.getElem?_map,List.getD_eq_getElem?_getD,List.getElem?_eq_getElem (by omega)]
  rfl
 repeat' (first|refine vz ?_|(conv=>whnf); first|with_reducible first|refine Sp.mk ?_ ?_|refine br_d (fun _=>?_) fun _=>?_|refine vM (fun _=>?_) fun _=>?_)
 refine Lp.mk ⟨Nat × Int × Int,fun y=>[(0,.str s),(2,.ptr 0 0),(8,.ptr 1 0),(60,slS N),(61,.int .i64 N.length),(62,.int .i64 y.1)],fun y=>[.box [.int .i64 0,.int .i64 0,.int .i64 0,.str ⟨#[]⟩],.box [.int .i64 k,.int .i64 y.2.1,.int .i64 y.2.2,.str W]],fun y=>y.1≤N.length∧∀ x,isDd s x→y.2.1=(if 1≤y.1 then x.a else 0)∧y.2.2=(if 2≤y.1 then x.b else 0),fun y=>N.length-y.1,⟨(0,0,0),⟨Nat.zero_le _,fun _ _=>⟨rfl,rfl⟩⟩,⟨⟨[some 0,some 1],[],rfl,rfl,?_,?_⟩⟩⟩,?_⟩
 ·exact wq
 ·exact wq
 rintro ⟨i,A,B⟩ ⟨i1,i2⟩
 dsimp only at i1 i2 ⊢
 by_cases hi:i<N.length
 ·repeat' (first|refine vz ?_|(conv=>whnf); first|with_reducible first|refine Sp.mk ?_ ?_|refine br_d (fun _=>?_) fun _=>?_|refine vM (fun _=>?_) fun _=>?_)
  refine ⟨N.getD i ⟨#[]⟩,?_,⟨by have:=ns _ (getD_mem' (d:=⟨#[]⟩) hi); omega⟩,?_⟩
  ·exact wq
  intro v hv hn
  have hnum:∀ x,isDd s x→isNum (N.getD i ⟨#[]⟩)=true∧v=(numsOf x).getD i 0:=fun x q=>by
   obtain ⟨m,m1,m2,m3⟩:=hxn x q i hi
   exact ⟨by rw [m2]; exact isNum_num m1,by rw [m3]; exact hn m m1 m2⟩
  generalize isNum (N.getD i ⟨#[]⟩)=ok at hnum ⊢
  cases ok
  ·repeat' (first|refine vz ?_|(conv=>whnf); first|with_reducible first|refine Sp.mk ?_ ?_|refine br_d (fun _=>?_) fun _=>?_|refine vM (fun _=>?_) fun _=>?_)
   exact hno fun ⟨x,q⟩=>by cases (hnum x q).1
  ·repeat' (first|refine vz ?_|(conv=>whnf); first|with_reducible first|refine Sp.mk ?_ ?_|refine br_d (fun _=>?_) fun _=>?_|refine vM (fun _=>?_) fun _=>?_)
   ·rename_i h0
    obtain rfl:i=0:=by omega
    refine ⟨(1,v,B),⟨by dsimp only; omega,fun x q=>?_⟩,by dsimp only; omega,⟨⟨[some 0,some 1],[],rfl,rfl,?_,?_⟩⟩⟩
    ·have g:=numsOf_ab q.1
     have hl:=hxl x q
     exact ⟨(hnum x q).2.trans (g.2.2.2.1 (by omega)),(i2 x q).2⟩
    ·exact wq
    ·exact wq
   ·rename_i h0
    refine ⟨(i+1,A,v),⟨by dsimp only; omega,fun x q=>?_⟩,by dsimp only; omega,⟨⟨[some 0,some 1],[],rfl,rfl,?_,?_⟩⟩⟩
    ·have g:=numsOf_ab q.1
     have hl:=hxl x q
     obtain rfl:i=1:=by omega
     exact ⟨(i2 x q).1,(hnum x q).2.trans (g.2.2.2.2 (by omega))⟩
    ·exact wq
    ·exact wq
 ·have hA:∀ x,isDd s x→x=⟨k,A,B,W⟩:=fun x q=>by
   have g:=numsOf_ab q.1
   have hl:=hxl x q
   obtain ⟨e1,e2⟩:=i2 x q
   obtain ⟨e3,e4,_⟩:=hx x q
   have e5:x.a=A:=by
    rw [e1]
    split
    ·rfl
    ·exact g.2.1 (by omega)
   have e6:x.b=B:=by
    rw [e2]
    split
    ·rfl
    ·exact g.2.2.1 (by omega)
   obtain ⟨xk,xa,xb,xw⟩:=x
   dsimp only at e3 e4 e5 e6
   rw [e3,e4,e5,e6]
  repeat' (first|refine vz ?_|(conv=>whnf); first|with_reducible first|refine Sp.mk ?_ ?_|refine br_d (fun _=>?_) fun _=>?_|refine vM (fun _=>?_) fun _=>?_)
  refine ⟨⟨k,A,B,W⟩,?_,⟨by dsimp only; omega⟩,?_⟩
  ·exact wq
  repeat' (first|refine vz ?_|(conv=>whnf); first|with_reducible first|refine Sp.mk ?_ ?_|refine br_d (fun _=>?_) fun _=>?_|refine vM (fun _=>?_) fun _=>?_)
  ·rename_i e
   exact h _ (isDd_of e hne)
  ·rename_i e
   exact hno fun ⟨x,q⟩=>e (by rw [← hA x q]; exact q.2)
end Go.Proofs.YtapeebjjljohdaaGreatDoor.Vc
end
section
/- Part XD: deeds that are read, by the reference. -/
namespace Go.Proofs.YtapeebjjljohdaaGreatDoor.Vc
open Go.Proofs
set_option maxRecDepth 10000
set_option maxHeartbeats 4000000
def rdV (w:ByteArray) (v:Int):Prop:=∀ n:Nat,n<1000000→w=num n→v=n
theorem rdV_num {n v:Int} (h:0≤n∧n≤99) {w:ByteArray} (e:w=num n) (hv:rdV w v):v=n:=by
 obtain ⟨m,m1,m2,m3⟩:=num_nat h
 rw [m3]
 exact hv m m1 (by rw [e,m2])
section
variable {x:Dd} {L:List ByteArray} (hL:L=kindB x.kind :: ((numsOf x).map num ++ wordsOf x)) (h:okDd x)
include hL h
theorem dd_two {v:Int} (hl:L.length=2) (hv:rdV (L.getD 1 ⟨#[]⟩) v):x=⟨0,v,0,⟨#[]⟩⟩∨x=⟨1,0,0,L.getD 1 ⟨#[]⟩⟩:=by
 have hc:=cnt_of hL h
 have ha:=h.a
 obtain ⟨k,a,b,w⟩:=x
 rcases h.k with ⟨q1,q2,q3⟩|⟨q1,q2,q3,q4⟩|⟨q1,_⟩|⟨q1,_⟩|⟨q1,_⟩ <;> dsimp only at hL hc q1 ha
 ·dsimp only at q2 q3
  subst q1 q2 q3
  have e:L.getD 1 ⟨#[]⟩=num a:=by rw [hL]; rfl
  rw [rdV_num ha e hv]
  exact .inl rfl
 ·dsimp only at q2 q3 q4
  subst q1 q2 q3
  have e:L.getD 1 ⟨#[]⟩=w:=by
   rw [hL]
   unfold wordsOf
   rw [if_neg (plainW_no q4).1]
   rfl
  rw [e]
  exact .inr rfl
 ·omega
 ·omega
 ·omega
theorem dd_three {v v':Int} (hl:L.length=3) (hv:rdV (L.getD 1 ⟨#[]⟩) v) (hv':rdV (L.getD 2 ⟨#[]⟩) v'):x=⟨3,v,v',⟨#[]⟩⟩:=by
 have hc:=cnt_of hL h
 have ha:=h.a
 have hb:=h.b
 obtain ⟨k,a,b,w⟩:=x
 rcases h.k with ⟨q1,_⟩|⟨q1,_⟩|⟨q1,_⟩|⟨q1,q2⟩|⟨q1,_⟩ <;> dsimp only at hL hc q1 ha hb
 ·omega
 ·omega
 ·omega
 ·dsimp only at q2
  subst q1 q2
  have e:L.getD 1 ⟨#[]⟩=num a:=by rw [hL]; rfl
  have e2:L.getD 2 ⟨#[]⟩=num b:=by rw [hL]; rfl
  rw [rdV_num ha e hv,rdV_num hb e2 hv']
 ·omega
theorem dd_four {v v':Int} (hl:L.length=4) (hv:rdV (L.getD 1 ⟨#[]⟩) v) (hv':rdV (L.getD 2 ⟨#[]⟩) v'):x=⟨2,v,v',L.getD 3 ⟨#[]⟩⟩:=by
 have hc:=cnt_of hL h
 have ha:=h.a
 have hb:=h.b
 obtain ⟨k,a,b,w⟩:=x
 rcases h.k with ⟨q1,_⟩|⟨q1,_⟩|⟨q1,q2⟩|⟨q1,_⟩|⟨q1,_⟩ <;> dsimp only at hL hc q1 ha hb
 ·omega
 ·omega
 ·dsimp only at q2
  subst q1
  have e:L.getD 1 ⟨#[]⟩=num a:=by rw [hL]; rfl
  have e2:L.getD 2 ⟨#[]⟩=num b:=by rw [hL]; rfl
  have e3:L.getD 3 ⟨#[]⟩=w:=by
   rw [hL]
   unfold wordsOf
   rw [if_neg (plainW_no q2).1]
   rfl
  rw [rdV_num ha e hv,rdV_num hb e2 hv',e3]
 ·omega
 ·omega
theorem dd_one (h2:¬ L.length=2) (h3:¬ L.length=3) (h4:¬ L.length=4):x=⟨4,0,0,⟨#[]⟩⟩:=by
 have hc:=cnt_of hL h
 obtain ⟨k,a,b,w⟩:=x
 rcases h.k with ⟨q1,_⟩|⟨q1,_⟩|⟨q1,_⟩|⟨q1,_⟩|⟨q1,q2,q3,q4⟩ <;> dsimp only at hc q1
 ·omega
 ·omega
 ·omega
 ·omega
 ·dsimp only at q2 q3 q4
  rw [q1,q2,q3,q4]
end
def C244:=C258
theorem F244:FF 61 C244:=by
 refine fitX [(65,C215),(66,C216),(73,C105)] (by simp only [List.mem_cons,List.not_mem_nil,or_false]; rintro _ (rfl|rfl|rfl) <;> first|exact F215|exact F216|exact F105) [] (by simp) Tryz.f61 ⟨rfl,by decide +kernel,by decide +kernel⟩ (fun _ _ _ hk h=>h.mono hk) ?_
 rintro s K hs ⟨h,hno⟩
 refine ⟨Nat.le_of_ble_eq_true rfl,?_⟩
 repeat' (first|refine vz ?_|(conv=>whnf); first|with_reducible first|refine Sp.mk ?_ ?_|refine br_d (fun _=>?_) fun _=>?_|refine vM (fun _=>?_) fun _=>?_)
 refine ⟨(s,32),?_,⟨by dsimp only; omega⟩,?_⟩
 ·exact wq
 obtain ⟨L,hL⟩:∃ L,cutB s 32=L:=⟨_,rfl⟩
 have hl:=cutB_len s 32
 have hlm:∀ x∈L,x.size≤s.size:=fun x hx=>cutB_mem (c:=32) (hL ▸ hx)
 have hX:∀ x,isDd s x→L=kindB x.kind :: ((numsOf x).map num ++ wordsOf x):=fun x q=>hL ▸ isDd_cut q
 dsimp only
 rw [hL] at hl ⊢
 apply later
 ·intro key
  repeat' ((conv=>whnf); first|with_reducible refine wk_at 9 ?_|with_reducible refine wk_at1 9 ?_|with_reducible refine wk_at2 9 ?_|refine vA ?_|with_reducible first|refine v8 ?_|refine Sp.mk ?_ ?_|refine vS ?_|refine vR ?_|refine vB ?_|refine br_nt ?_|refine br_tt ?_|refine br_ff ?_|refine vP ?_|refine vQ ?_|refine vT ?_|refine vF ?_|refine br_and ?_|refine br_or ?_|refine br_d (fun _=>?_) fun _=>?_|refine vM (fun _=>?_) fun _=>?_)
  ·rename_i q1
   have h1:=hlm _ (getD_mem' (l:=L) (i:=1) (d:=⟨#[]⟩) (by omega))
   refine Dr.mk ⟨(.rd 0 (.rd 1 (.rd 2 (.rd 3 (.rd 6 (.rd 7 (.rd 8 (.rd 9 (.ef 4 (.rd 5 (.ef 10 (.ef 11 (.rd 12 .dn) .no) .no)) .no))))))))),by decide +kernel,?_⟩
   repeat' (first|refine vz ?_|(conv=>whnf); first|with_reducible first|refine Sp.mk ?_ ?_|refine br_d (fun _=>?_) fun _=>?_|refine vM (fun _=>?_) fun _=>?_)
   all_goals
    refine ⟨L.getD 1 ⟨#[]⟩,?_,⟨by omega⟩,?_⟩
    ·exact wq
    intro v hv hn
    repeat' ((conv=>whnf); first|with_reducible refine wk_at 9 ?_|with_reducible refine wk_at1 9 ?_|with_reducible refine wk_at2 9 ?_|refine vA ?_|with_reducible first|refine v8 ?_|refine Sp.mk ?_ ?_|refine vS ?_|refine vR ?_|refine vB ?_|refine br_nt ?_|refine br_tt ?_|refine br_ff ?_|refine vP ?_|refine vQ ?_|refine vT ?_|refine vF ?_|refine br_and ?_|refine br_or ?_|refine br_d (fun _=>?_) fun _=>?_|refine vM (fun _=>?_) fun _=>?_)
   all_goals
    obtain ⟨l,hle⟩:∃ l:List Dd,l=[⟨4,0,0,⟨#[]⟩⟩,⟨0,v,0,⟨#[]⟩⟩,⟨1,0,0,L.getD 1 ⟨#[]⟩⟩]:=⟨_,rfl⟩
    have hlx:l.length≤3∧(∀ y∈l,y.words.size≤s.size)∧∀ x,isDd s x→x∈l:=by
     subst hle
     refine ⟨by simp,?_,fun x q=>?_⟩
     ·simp only [List.mem_cons,List.not_mem_nil,or_false]
      rintro y (rfl|rfl|rfl) <;> first|exact Nat.zero_le _|assumption
     ·rcases dd_two (hX x q) q.1 (by omega) hn with rfl|rfl <;> simp
    refine ⟨Wk.go [(0,.str s),(2,.ptr 0 0),(5,slD l)] [.box [.int .i64 0,.int .i64 0,.int .i64 0,.str ⟨#[]⟩]] ?_ ?_⟩
    ·subst hle
     first|(refine ⟨⟨[some 0],[1],rfl,rfl,?_,?_⟩⟩ <;> (repeat' ((conv=>whnf); first|with_reducible exact True.intro|exact vW|with_reducible refine And.intro ?_ ?_|exact Chk.mk ⟨rfl,by decide,(fun i hi=>by rcases (show i=0∨i=1∨i=2 by (have hi': i<3:=hi); omega) with rfl|rfl|rfl <;> rfl)⟩)) <;> fail)|(refine ⟨⟨[some 0],[2],rfl,rfl,?_,?_⟩⟩ <;> (repeat' ((conv=>whnf); first|with_reducible exact True.intro|exact vW|with_reducible refine And.intro ?_ ?_|exact Chk.mk ⟨rfl,by decide,(fun i hi=>by rcases (show i=0∨i=1∨i=2 by (have hi': i<3:=hi); omega) with rfl|rfl|rfl <;> rfl)⟩)) <;> fail)|(refine ⟨⟨[some 0],[3],rfl,rfl,?_,?_⟩⟩ <;> (repeat' ((conv=>whnf); first|with_reducible exact True.intro|exact vW|with_reducible refine And.intro ?_ ?_|exact Chk.mk ⟨rfl,by decide,(fun i hi=>by rcases (show i=0∨i=1∨i=2 by (have hi': i<3:=hi); omega) with rfl|rfl|rfl <;> rfl)⟩)) <;> fail)|(refine ⟨⟨[some 0],[4],rfl,rfl,?_,?_⟩⟩ <;> (repeat' ((conv=>whnf); first|with_reducible exact True.intro|exact vW|with_reducible refine And.intro ?_ ?_|exact Chk.mk ⟨rfl,by decide,(fun i hi=>by rcases (show i=0∨i=1∨i=2 by (have hi': i<3:=hi); omega) with rfl|rfl|rfl <;> rfl)⟩)) <;> fail)
    clear hle
    revert l
    exact key.t
  ·rename_i q0 q1
   have h1:=hlm _ (getD_mem' (l:=L) (i:=1) (d:=⟨#[]⟩) (by omega))
   have h2:=hlm _ (getD_mem' (l:=L) (i:=2) (d:=⟨#[]⟩) (by omega))
   refine Dr.mk ⟨(.rd 0 (.rd 1 (.rd 2 (.rd 3 (.rd 5 (.rd 6 (.rd 7 (.ef 4 (.ef 8 (.rd 9 (.ef 10 (.ef 11 (.rd 12 .dn) .no) .no)) .no) .no)))))))),by decide +kernel,?_⟩
   repeat' (first|refine vz ?_|(conv=>whnf); first|with_reducible first|refine Sp.mk ?_ ?_|refine br_d (fun _=>?_) fun _=>?_|refine vM (fun _=>?_) fun _=>?_)
   all_goals
    refine ⟨L.getD 1 ⟨#[]⟩,?_,⟨by omega⟩,?_⟩
    ·exact wq
    intro v hv hn
    repeat' (first|refine vz ?_|(conv=>whnf); first|with_reducible first|refine Sp.mk ?_ ?_|refine br_d (fun _=>?_) fun _=>?_|refine vM (fun _=>?_) fun _=>?_)
   all_goals
    refine ⟨L.getD 2 ⟨#[]⟩,?_,⟨by omega⟩,?_⟩
    ·exact wq
    intro v' hv' hn'
    repeat' ((conv=>whnf); first|with_reducible refine wk_at 9 ?_|with_reducible refine wk_at1 9 ?_|with_reducible refine wk_at2 9 ?_|refine vA ?_|with_reducible first|refine v8 ?_|refine Sp.mk ?_ ?_|refine vS ?_|refine vR ?_|refine vB ?_|refine br_nt ?_|refine br_tt ?_|refine br_ff ?_|refine vP ?_|refine vQ ?_|refine vT ?_|refine vF ?_|refine br_and ?_|refine br_or ?_|refine br_d (fun _=>?_) fun _=>?_|refine vM (fun _=>?_) fun _=>?_)
   all_goals
    obtain ⟨l,hle⟩:∃ l:List Dd,l=[⟨4,0,0,⟨#[]⟩⟩,⟨3,v,v',⟨#[]⟩⟩]:=⟨_,rfl⟩
    have hlx:l.length≤3∧(∀ y∈l,y.words.size≤s.size)∧∀ x,isDd s x→x∈l:=by
     subst hle
     refine ⟨by simp,?_,fun x q=>?_⟩
     ·simp only [List.mem_cons,List.not_mem_nil,or_false]
      rintro y (rfl|rfl) <;> first|exact Nat.zero_le _|assumption
     ·rw [dd_three (hX x q) q.1 (by omega) hn hn']; simp
    refine ⟨Wk.go [(0,.str s),(2,.ptr 0 0),(5,slD l)] [.box [.int .i64 0,.int .i64 0,.int .i64 0,.str ⟨#[]⟩]] ?_ ?_⟩
    ·subst hle
     first|(refine ⟨⟨[some 0],[1],rfl,rfl,?_,?_⟩⟩ <;> (repeat' ((conv=>whnf); first|with_reducible exact True.intro|exact vW|with_reducible refine And.intro ?_ ?_|exact Chk.mk ⟨rfl,by decide,(fun i hi=>by rcases (show i=0∨i=1 by (have hi': i<2:=hi); omega) with rfl|rfl <;> rfl)⟩)) <;> fail)|(refine ⟨⟨[some 0],[2],rfl,rfl,?_,?_⟩⟩ <;> (repeat' ((conv=>whnf); first|with_reducible exact True.intro|exact vW|with_reducible refine And.intro ?_ ?_|exact Chk.mk ⟨rfl,by decide,(fun i hi=>by rcases (show i=0∨i=1 by (have hi': i<2:=hi); omega) with rfl|rfl <;> rfl)⟩)) <;> fail)|(refine ⟨⟨[some 0],[3],rfl,rfl,?_,?_⟩⟩ <;> (repeat' ((conv=>whnf); first|with_reducible exact True.intro|exact vW|with_reducible refine And.intro ?_ ?_|exact Chk.mk ⟨rfl,by decide,(fun i hi=>by rcases (show i=0∨i=1 by (have hi': i<2:=hi); omega) with rfl|rfl <;> rfl)⟩)) <;> fail)|(refine ⟨⟨[some 0],[4],rfl,rfl,?_,?_⟩⟩ <;> (repeat' ((conv=>whnf); first|with_reducible exact True.intro|exact vW|with_reducible refine And.intro ?_ ?_|exact Chk.mk ⟨rfl,by decide,(fun i hi=>by rcases (show i=0∨i=1 by (have hi': i<2:=hi); omega) with rfl|rfl <;> rfl)⟩)) <;> fail)
    clear hle
    revert l
    exact key.t
  ·rename_i q0 q1 q2
   have h1:=hlm _ (getD_mem' (l:=L) (i:=1) (d:=⟨#[]⟩) (by omega))
   have h2:=hlm _ (getD_mem' (l:=L) (i:=2) (d:=⟨#[]⟩) (by omega))
   have h3:=hlm _ (getD_mem' (l:=L) (i:=3) (d:=⟨#[]⟩) (by omega))
   refine Dr.mk ⟨(.rd 0 (.rd 1 (.rd 2 (.rd 3 (.rd 5 (.rd 6 (.rd 7 (.rd 9 (.rd 10 (.rd 11 (.ef 4 (.ef 8 (.rd 12 (.ef 13 (.ef 14 (.rd 15 .dn) .no) .no)) .no) .no))))))))))),by decide +kernel,?_⟩
   repeat' (first|refine vz ?_|(conv=>whnf); first|with_reducible first|refine Sp.mk ?_ ?_|refine br_d (fun _=>?_) fun _=>?_|refine vM (fun _=>?_) fun _=>?_)
   all_goals
    refine ⟨L.getD 1 ⟨#[]⟩,?_,⟨by omega⟩,?_⟩
    ·exact wq
    intro v hv hn
    repeat' (first|refine vz ?_|(conv=>whnf); first|with_reducible first|refine Sp.mk ?_ ?_|refine br_d (fun _=>?_) fun _=>?_|refine vM (fun _=>?_) fun _=>?_)
   all_goals
    refine ⟨L.getD 2 ⟨#[]⟩,?_,⟨by omega⟩,?_⟩
    ·exact wq
    intro v' hv' hn'
    repeat' ((conv=>whnf); first|with_reducible refine wk_at 9 ?_|with_reducible refine wk_at1 9 ?_|with_reducible refine wk_at2 9 ?_|refine vA ?_|with_reducible first|refine v8 ?_|refine Sp.mk ?_ ?_|refine vS ?_|refine vR ?_|refine vB ?_|refine br_nt ?_|refine br_tt ?_|refine br_ff ?_|refine vP ?_|refine vQ ?_|refine vT ?_|refine vF ?_|refine br_and ?_|refine br_or ?_|refine br_d (fun _=>?_) fun _=>?_|refine vM (fun _=>?_) fun _=>?_)
   all_goals
    obtain ⟨l,hle⟩:∃ l:List Dd,l=[⟨4,0,0,⟨#[]⟩⟩,⟨2,v,v',L.getD 3 ⟨#[]⟩⟩]:=⟨_,rfl⟩
    have hlx:l.length≤3∧(∀ y∈l,y.words.size≤s.size)∧∀ x,isDd s x→x∈l:=by
     subst hle
     refine ⟨by simp,?_,fun x q=>?_⟩
     ·simp only [List.mem_cons,List.not_mem_nil,or_false]
      rintro y (rfl|rfl) <;> first|exact Nat.zero_le _|assumption
     ·rw [dd_four (hX x q) q.1 (by omega) hn hn']; simp
    refine ⟨Wk.go [(0,.str s),(2,.ptr 0 0),(5,slD l)] [.box [.int .i64 0,.int .i64 0,.int .i64 0,.str ⟨#[]⟩]] ?_ ?_⟩
    ·subst hle
     first|(refine ⟨⟨[some 0],[1],rfl,rfl,?_,?_⟩⟩ <;> (repeat' ((conv=>whnf); first|with_reducible exact True.intro|exact vW|with_reducible refine And.intro ?_ ?_|exact Chk.mk ⟨rfl,by decide,(fun i hi=>by rcases (show i=0∨i=1 by (have hi': i<2:=hi); omega) with rfl|rfl <;> rfl)⟩)) <;> fail)|(refine ⟨⟨[some 0],[2],rfl,rfl,?_,?_⟩⟩ <;> (repeat' ((conv=>whnf); first|with_reducible exact True.intro|exact vW|with_reducible refine And.intro ?_ ?_|exact Chk.mk ⟨rfl,by decide,(fun i hi=>by rcases (show i=0∨i=1 by (have hi': i<2:=hi); omega) with rfl|rfl <;> rfl)⟩)) <;> fail)|(refine ⟨⟨[some 0],[3],rfl,rfl,?_,?_⟩⟩ <;> (repeat' ((conv=>whnf); first|with_reducible exact True.intro|exact vW|with_reducible refine And.intro ?_ ?_|exact Chk.mk ⟨rfl,by decide,(fun i hi=>by rcases (show i=0∨i=1 by (have hi': i<2:=hi); omega) with rfl|rfl <;> rfl)⟩)) <;> fail)|(refine ⟨⟨[some 0],[4],rfl,rfl,?_,?_⟩⟩ <;> (repeat' ((conv=>whnf); first|with_reducible exact True.intro|exact vW|with_reducible refine And.intro ?_ ?_|exact Chk.mk ⟨rfl,by decide,(fun i hi=>by rcases (show i=0∨i=1 by (have hi': i<2:=hi); omega) with rfl|rfl <;> rfl)⟩)) <;> fail)
    clear hle
    revert l
    exact key.t
  ·rename_i q0 q1 q2
   obtain ⟨l,hle⟩:∃ l:List Dd,l=[⟨4,0,0,⟨#[]⟩⟩]:=⟨_,rfl⟩
   have hlx:l.length≤3∧(∀ y∈l,y.words.size≤s.size)∧∀ x,isDd s x→x∈l:=by
    subst hle
    refine ⟨by simp,?_,fun x q=>?_⟩
    ·simp only [List.mem_cons,List.not_mem_nil,or_false]
     rintro y rfl <;> first|exact Nat.zero_le _|assumption
    ·rw [dd_one (hX x q) q.1 (by omega) (by omega) (by omega)]; simp
   refine ⟨Wk.go [(0,.str s),(2,.ptr 0 0),(5,slD l)] [.box [.int .i64 0,.int .i64 0,.int .i64 0,.str ⟨#[]⟩]] ?_ ?_⟩
   ·subst hle
    first|(refine ⟨⟨[some 0],[1],rfl,rfl,?_,?_⟩⟩ <;> (repeat' ((conv=>whnf); first|with_reducible exact True.intro|exact vW|with_reducible refine And.intro ?_ ?_|exact Chk.mk ⟨rfl,by decide,(fun i hi=>by rcases (show i=0 by (have hi': i<1:=hi); omega) with rfl <;> rfl)⟩)) <;> fail)|(refine ⟨⟨[some 0],[2],rfl,rfl,?_,?_⟩⟩ <;> (repeat' ((conv=>whnf); first|with_reducible exact True.intro|exact vW|with_reducible refine And.intro ?_ ?_|exact Chk.mk ⟨rfl,by decide,(fun i hi=>by rcases (show i=0 by (have hi': i<1:=hi); omega) with rfl <;> rfl)⟩)) <;> fail)|(refine ⟨⟨[some 0],[3],rfl,rfl,?_,?_⟩⟩ <;> (repeat' ((conv=>whnf); first|with_reducible exact True.intro|exact vW|with_reducible refine And.intro ?_ ?_|exact Chk.mk ⟨rfl,by decide,(fun i hi=>by rcases (show i=0 by (have hi': i<1:=hi); omega) with rfl <;> rfl)⟩)) <;> fail)|(refine ⟨⟨[some 0],[4],rfl,rfl,?_,?_⟩⟩ <;> (repeat' ((conv=>whnf); first|with_reducible exact True.intro|exact vW|with_reducible refine And.intro ?_ ?_|exact Chk.mk ⟨rfl,by decide,(fun i hi=>by rcases (show i=0 by (have hi': i<1:=hi); omega) with rfl <;> rfl)⟩)) <;> fail)
   clear hle
   revert l
   exact key.t
 rintro l ⟨l1,l2,l3⟩
 repeat' (first|refine vz ?_|(conv=>whnf); first|with_reducible first|refine Sp.mk ?_ ?_|refine br_d (fun _=>?_) fun _=>?_|refine vM (fun _=>?_) fun _=>?_)
 refine Lp.mk ⟨Nat,fun i=>[(0,.str s),(2,.ptr 0 0),(5,slD l),(6,.int .i64 i)],fun _=>[.box [.int .i64 0,.int .i64 0,.int .i64 0,.str ⟨#[]⟩]],fun i=>i≤l.length∧∀ j,j<i→¬ isDd s (l.getD j default),fun i=>l.length-i,⟨0,⟨Nat.zero_le _,fun j hj=>absurd hj (Nat.not_lt_zero _)⟩,⟨⟨[some 0],[],rfl,rfl,?_,?_⟩⟩⟩,?_⟩
 ·exact wq
 ·exact wq
 rintro i ⟨i1,i2⟩
 dsimp only
 by_cases hi:i<l.length
 ·have hw:=l2 _ (getD_mem' (d:=default) hi)
  have hstep:¬ isDd s (l.getD i default)→∀ j,j<i+1→¬ isDd s (l.getD j default):=fun g j hj=>by
   by_cases e:j=i
   ·subst e; exact g
   ·exact i2 j (by omega)
  by_cases hs0:s=⟨#[]⟩
  ·repeat' (first|refine vz ?_|(conv=>whnf); first|with_reducible first|refine Sp.mk ?_ ?_|refine br_d (fun _=>?_) fun _=>?_|refine vM (fun _=>?_) fun _=>?_)
   refine ⟨i+1,⟨by omega,hstep fun q=>isDd_ne q hs0⟩,by omega,⟨⟨[some 0],[],rfl,rfl,?_,?_⟩⟩⟩
   ·exact wq
   ·exact wq
  ·repeat' (first|refine vz ?_|(conv=>whnf); first|with_reducible first|refine Sp.mk ?_ ?_|refine br_d (fun _=>?_) fun _=>?_|refine vM (fun _=>?_) fun _=>?_)
   refine ⟨l.getD i default,?_,⟨by omega⟩,?_⟩
   ·exact wq
   repeat' (first|refine vz ?_|(conv=>whnf); first|with_reducible first|refine Sp.mk ?_ ?_|refine br_d (fun _=>?_) fun _=>?_|refine vM (fun _=>?_) fun _=>?_)
   ·rename_i e
    exact h _ (isDd_of e hs0)
   ·rename_i e
    refine ⟨i+1,⟨by omega,hstep fun q=>e q.2⟩,by omega,⟨⟨[some 0],[],rfl,rfl,?_,?_⟩⟩⟩
    ·exact wq
    ·exact wq
 ·repeat' (first|refine vz ?_|(conv=>whnf); first|with_reducible first|refine Sp.mk ?_ ?_|refine br_d (fun _=>?_) fun _=>?_|refine vM (fun _=>?_) fun _=>?_)
  refine hno fun ⟨x,q⟩=>?_
  obtain ⟨j,hj,e⟩:=List.getElem_of_mem (l3 x q)
  refine i2 j (by omega) ?_
  rw [List.getD_eq_getElem?_getD,List.getElem?_eq_getElem hj,e]
  exact q
end Go.Proofs.YtapeebjjljohdaaGreatDoor.Vc
end
section
/- Part XF: journals that are read, by both sides. -/
namespace Go.Proofs.YtapeebjjljohdaaGreatDoor.Vc
open Go.Proofs
set_option maxRecDepth 10000
set_option maxHeartbeats 4000000
/-! ### strings.Cut -/
def cutPost (c:UInt8) (s:ByteArray) (K:AV→Prop):Prop:=(∀ p r:ByteArray,c ∉ p.data.toList→s.data.toList=p.data.toList ++ c :: r.data.toList→K (.tup [.str p,.str r,.bool true]))∧(c ∉ s.data.toList→K (.tup [.str s,.str ⟨#[]⟩,.bool false]))
def C265:List AV→(AV→Prop)→Prop:=con (X:=ByteArray × UInt8) (fun x=>[.str x.1,.str ⟨#[x.2]⟩]) (fun x=>x.1.size<4294967281) fun x K=>cutPost x.2 x.1 K
theorem three_pv {R:Nat→Prop} {w:World} {a b:ByteArray} {c:Bool}:PV R w (.tup [.str a,.str b,.bool c]) (.tuple #[.string a,.string b,.bool c]):=by
 refine .tup _ _ rfl fun j hj=>?_
 replace hj:j<3:=hj
 rcases (show j=0∨j=1∨j=2 by omega) with rfl|rfl|rfl
 ·exact .data (.str _)
 ·exact .data (.str _)
 ·exact .data (.bool _)
theorem F265:FF 97 C265:=fun Gl hG=>by
 refine ⟨FnOk.has ⟨rfl,by decide +kernel,by decide +kernel⟩ (fn:=Tryz.f97),fun us K K' hk ⟨x,h1,h2,h3⟩=>⟨x,h1,h2,fun p r q1 q2=>hk _ (h3.1 p r q1 q2),fun q=>hk _ (h3.2 q)⟩,?_⟩
 rintro us K ⟨⟨s,c⟩,h1,⟨h2⟩,h3⟩ R w xs hL hA
 obtain ⟨g1,g2⟩:=exL_PV (R:=R) (w:=w) us _ h1
 have hA':ArgsV R w [.str s,.str ⟨#[c]⟩] xs:=⟨hA.1.trans g1,fun j hj=>g2 j (g1 ▸ hj) _ (hA.2 j (g1 ▸ hj))⟩
 obtain rfl:=args_pl rfl hA'
 have hw:=(hG w fun p hp=>(hL.gl p hp).2).len
 obtain ⟨cs, hv, m, rfl⟩ := hw.resolve_left (by intro e; have : Tryz.prog.globalNamed "internal/bytealg.MaxLen" = none := e; revert this; decide +kernel)
 refine (Tryz.strings_Cut s ⟨#[c]⟩ m w h2 ((World.var?_cell (P:=Tryz.prog) (by kernel_rfl) hv 0).trans rfl)).mono fun e w' he=>?_
 obtain ⟨rfl,n,rfl⟩:=he
 show ∃ r x R',Ending.returned (.tuple #[.string ⟨(Lib.cut s.data.toList [c]).1.toArray⟩,.string ⟨(Lib.cut s.data.toList [c]).2.1.toArray⟩,.bool (Lib.cut s.data.toList [c]).2.2])=.returned x∧_
 by_cases hc:c∈s.data.toList
 ·obtain ⟨x,r,e,hx⟩:=first_occ hc
  have hi:=index_hit (r:=r) hx
  have hcut:Lib.cut s.data.toList [c]=(x,r,true):=by
   rw [e]
   unfold Lib.cut
   rw [hi,if_pos (by omega),Int.toNat_natCast,List.take_left,show ([c]:List UInt8).length=1 from rfl,List.drop_append,List.drop_of_length_le (by omega),show x.length+1-x.length=1 by omega]
   rfl
  rw [hcut]
  exact ⟨_,_,R,rfl,h3.1 ⟨x.toArray⟩ ⟨r.toArray⟩ hx e,three_pv,⟨hL.lt,fun _ h=>h,fun _ h=>.inl h,Nat.le_refl _,fun _ _=>rfl,rfl,rfl,rfl⟩⟩
 ·have hi:=index_none hc
  have hcut:Lib.cut s.data.toList [c]=(s.data.toList,[],false):=by
   unfold Lib.cut
   rw [hi]
   rfl
  rw [hcut]
  exact ⟨_,_,R,rfl,h3.2 hc,three_pv,⟨hL.lt,fun _ h=>h,fun _ h=>.inl h,Nat.le_refl _,fun _ _=>rfl,rfl,rfl,rfl⟩⟩
/-! ### What has been read -/
structure jrI (s:ByteArray) (l:List Dd) (n:Nat):Prop where
 ok:∀ x∈l,okDd x
 nn:n=(jl l).length
 le:n≤s.size
 eq:s.data.toList=jl l ++ s.data.toList.drop n
theorem jrI_0 (s:ByteArray):jrI s [] 0:=⟨fun _ h=>(by cases h),rfl,Nat.zero_le _,rfl⟩
theorem jrI.end {s:ByteArray} {l:List Dd} {n:Nat} (h:jrI s l n) (hs:∀ x t,okDd x→s.data.toList.drop n≠lineL x ++ t):jr s=l∧jn s=n:=by
 obtain ⟨e1,e2⟩:=jr_of ⟨h.ok,h.eq,hs⟩
 exact ⟨e1,e2.trans h.nn.symm⟩
theorem jrI.step {s:ByteArray} {l:List Dd} {n:Nat} {p:ByteArray} {x:Dd} {r:List UInt8} (h:jrI s l n) (hp:s.data.toList.drop n=p.data.toList ++ 10 :: r) (hx:isDd p x):jrI s (l ++ [x]) (n+(p.size+1)):=by
 have hl:lineL x=p.data.toList ++ [10]:=by unfold lineL; rw [hx.2]
 have hn:(lineL x).length=p.size+1:=by rw [line_len,hx.2]
 have hlen:(s.data.toList.drop n).length=s.size-n:=by rw [List.length_drop,Array.length_toList]; rfl
 refine ⟨fun y hy=>(List.mem_append.1 hy).elim (h.ok y) fun q=>by rw [List.mem_singleton.1 q]; exact hx.1,?_,?_,?_⟩
 ·rw [jl_app,jl_one,List.length_append,← h.nn,hn]
 ·have:=congrArg List.length hp
  rw [hlen,List.length_append,Array.length_toList] at this
  simp only [List.length_cons] at this
  have hps:p.size=p.data.size:=rfl
  have:=h.le
  omega
 ·have e2:s.data.toList.drop (n+(p.size+1))=r:=by
   rw [← List.drop_drop,hp,show p.data.toList ++ 10 :: r=(p.data.toList ++ [10]) ++ r by simp]
   exact List.drop_left' (by rw [List.length_append,Array.length_toList]; rfl)
  rw [e2,jl_app,jl_one,hl]
  have:=h.eq
  rw [hp] at this
  rw [this]
  simp
theorem stop_line {p:ByteArray} {r:List UInt8} (hp:(10:UInt8) ∉ p.data.toList) (hx:¬ ∃ x,isDd p x):∀ x t,okDd x→p.data.toList ++ 10 :: r≠lineL x ++ t:=fun x t h e=>by
 unfold lineL at e
 rw [List.append_assoc] at e
 obtain ⟨e1,_⟩:=first_inj hp (deed_nl x) e
 exact hx ⟨x,h,(bytes_inj e1).symm⟩
theorem stop_none {t:List UInt8} (h:(10:UInt8) ∉ t):∀ x u,okDd x→t≠lineL x ++ u:=fun x u _ e=>h (by
 rw [e]
 unfold lineL
 simp)
theorem ext_tail {s:ByteArray} {n:Nat}:(s.extract n s.size).data.toList=s.data.toList.drop n:=by
 rw [ext_list,List.take_of_length_le (by rw [List.length_drop,Array.length_toList]; exact Nat.le_refl _)]
/-! ### The implementation's -/
end Go.Proofs.YtapeebjjljohdaaGreatDoor.Vc
end
section
/- Part UM: marks in memory of one's own. -/
namespace Go.Proofs.YtapeebjjljohdaaGreatDoor.Vc
open Go.Proofs
set_option maxRecDepth 10000
set_option maxHeartbeats 4000000
end Go.Proofs.YtapeebjjljohdaaGreatDoor.Vc
end
section
/- Part XG: journals, by the reference; marks of deeds. -/
namespace Go.Proofs.YtapeebjjljohdaaGreatDoor.Vc
open Go.Proofs
set_option maxRecDepth 10000
set_option maxHeartbeats 4000000
def C246:List AV→(AV→Prop)→Prop:=con (X:=ByteArray) (fun s=>[.str s]) (fun s=>s.size≤1048576) fun s K=>K (.tup [slD (jr s),.int .i64 (jn s:Nat)])
theorem ext_more {s:ByteArray} {n k:Nat} {b:UInt8} (hnk:n≤k) (h:s.data.toList.drop k=b :: s.data.toList.drop (k+1)):(s.extract n (k+1)).data.toList=(s.extract n k).data.toList ++ [b]:=ext_snocL hnk h
theorem drop_split {s:ByteArray} {n k:Nat} (h:n≤k):s.data.toList.drop n=(s.extract n k).data.toList ++ s.data.toList.drop k:=by
 rw [ext_list]
 conv=>lhs; rw [← List.take_append_drop (k-n) (s.data.toList.drop n)]
 rw [List.drop_drop,show n+(k-n)=k by omega]
structure Jst where
 l:List Dd
 n:Nat
 k:Nat
theorem F246:FF 28 C246:=by
 refine fitXE [(61,C244)] (by simp only [List.mem_cons,List.not_mem_nil,or_false]; rintro _ rfl <;> first|exact F244) [] (by simp) Tryz.f28 ⟨rfl,by decide +kernel,by decide +kernel⟩ (by intro x K K2 hk h; (try dsimp only at h ⊢); intros; apply hk; first|exact h|(apply h <;> assumption)) ?_
 rintro s K hs h
 refine ⟨Nat.le_of_ble_eq_true rfl,?_⟩
 repeat' (first|refine vz ?_|(conv=>whnf); first|with_reducible first|refine Sp.mk ?_ ?_|refine br_d (fun _=>?_) fun _=>?_|refine vM (fun _=>?_) fun _=>?_)
 refine Lp.mk ⟨Jst,fun x=>[(0,.str s),(4,.row 0 4 0 x.l.length),(5,.int .i64 x.n),(6,.int .i64 x.k)],fun x=>[.row 4 x.l.length fun i=>encD (x.l.getD i default)],fun x=>jrI s x.l x.n∧x.n≤x.k∧x.k≤s.size∧(10:UInt8) ∉ (s.extract x.n x.k).data.toList,fun x=>s.size-x.k,⟨⟨[],0,0⟩,⟨jrI_0 s,Nat.le_refl _,Nat.zero_le _,by rw [ext_list]; exact fun q=>by cases q⟩,⟨⟨[none],[],rfl,rfl,?_,?_⟩⟩⟩,?_⟩
 ·exact wq
 ·exact wq
 rintro ⟨l,n,k⟩ ⟨hI,i2,i3,i4⟩
 have i1:=hI.le
 dsimp only at i1 i2 i3 i4 hI ⊢
 have hll:l.length≤n:=by rw [hI.nn]; exact jl_len l
 have hbye:(∀ x t,okDd x→s.data.toList.drop n≠lineL x ++ t)→jr s=l∧jn s=n:=hI.end
 have hps:(s.extract n k).size≤s.size:=by rw [ByteArray.size_extract]; omega
 by_cases hk:k<s.size
 ·obtain ⟨b,e1,e2⟩:=drop_bt hk
  have e1':bt s (k:Int).toNat=(b.toNat:Int):=e1
  by_cases hb:(b.toNat:Int)=10
  ·obtain rfl:b=10:=UInt8.toNat_inj.1 (by show b.toNat=10; omega)
   have q2:s.data.toList.drop n=(s.extract n k).data.toList ++ 10 :: s.data.toList.drop (k+1):=by rw [drop_split i2,e2]
   have hsz:n+((s.extract n k).size+1)=k+1:=by
    rw [ByteArray.size_extract]
    omega
   repeat' (first|refine vz ?_|(conv=>whnf); first|with_reducible first|refine Sp.mk ?_ ?_|refine br_d (fun _=>?_) fun _=>?_|refine vM (fun _=>?_) fun _=>?_)
   refine ⟨s.extract n k,?_,⟨by omega⟩,?_⟩
   ·exact wq
   refine ⟨fun x hx=>?_,fun hx=>?_⟩
   ·have hI2:=hI.step q2 hx
    rw [hsz] at hI2
    obtain ⟨k',a,b,w⟩:=x
    dsimp only [ded,encD]
    repeat' (first|refine vz ?_|(conv=>whnf); first|with_reducible first|refine Sp.mk ?_ ?_|refine br_d (fun _=>?_) fun _=>?_|refine vM (fun _=>?_) fun _=>?_)
    refine ⟨⟨l ++ [⟨k',a,b,w⟩],k+1,k+1⟩,⟨hI2,Nat.le_refl _,by dsimp only; omega,by rw [ext_list,Nat.sub_self]; exact fun q=>by cases q⟩,by dsimp only; omega,?_⟩
    first|(refine ⟨⟨[some 3],[],rfl,rfl,?_,?_⟩⟩ <;> (repeat' ((conv=>whnf); first|with_reducible exact True.intro|exact vW|with_reducible refine And.intro ?_ ?_|exact Chk.mk ⟨rfl,by rw [List.length_append]; rfl⟩|exact Chk.mk (ext_push (enc:=encD) (d:=default) (l:=l) (x:=⟨k',a,b,w⟩) rfl))) <;> fail)|(refine ⟨⟨[some 2],[],rfl,rfl,?_,?_⟩⟩ <;> (repeat' ((conv=>whnf); first|with_reducible exact True.intro|exact vW|with_reducible refine And.intro ?_ ?_|exact Chk.mk ⟨rfl,by rw [List.length_append]; rfl⟩|exact Chk.mk (ext_push (enc:=encD) (d:=default) (l:=l) (x:=⟨k',a,b,w⟩) rfl))) <;> fail)
   ·obtain ⟨g1,g2⟩:=hbye (q2 ▸ stop_line i4 hx)
    rw [g1,g2] at h
    dsimp only [ded,encD]
    repeat' (first|refine vz ?_|(conv=>whnf); first|with_reducible first|refine Sp.mk ?_ ?_|refine br_d (fun _=>?_) fun _=>?_|refine vM (fun _=>?_) fun _=>?_)
    refine ⟨_,?_,h⟩
    repeat' ((conv=>whnf); first|with_reducible exact True.intro|exact vW|with_reducible refine And.intro ?_ ?_)
    all_goals exact Chk.mk ⟨rfl,fun i _=>by dsimp only; (try rw [Nat.zero_add]); try rfl⟩
  ·repeat' (first|refine vz ?_|(conv=>whnf); first|with_reducible first|refine Sp.mk ?_ ?_|refine br_d (fun _=>?_) fun _=>?_|refine vM (fun _=>?_) fun _=>?_)
   refine ⟨⟨l,n,k+1⟩,⟨hI,by dsimp only; omega,by dsimp only; omega,?_⟩,by dsimp only; omega,?_⟩
   ·dsimp only
    rw [ext_more i2 e2]
    intro q
    rcases List.mem_append.1 q with q|q
    ·exact i4 q
    ·have:=List.mem_singleton.1 q
     subst this
     exact hb rfl
   ·first|(refine ⟨⟨[some 0],[],rfl,rfl,?_,?_⟩⟩ <;> (repeat' ((conv=>whnf); first|with_reducible exact True.intro|exact vW|with_reducible refine And.intro ?_ ?_)) <;> fail)
 ·obtain rfl:k=s.size:=by omega
  rw [ext_tail] at i4
  obtain ⟨g1,g2⟩:=hbye (stop_none i4)
  rw [g1,g2] at h
  repeat' (first|refine vz ?_|(conv=>whnf); first|with_reducible first|refine Sp.mk ?_ ?_|refine br_d (fun _=>?_) fun _=>?_|refine vM (fun _=>?_) fun _=>?_)
  refine ⟨_,?_,h⟩
  repeat' ((conv=>whnf); first|with_reducible exact True.intro|exact vW|with_reducible refine And.intro ?_ ?_)
  all_goals exact Chk.mk ⟨rfl,fun i _=>by dsimp only; (try rw [Nat.zero_add]); try rfl⟩
def C253:List AV→(AV→Prop)→Prop:=con (X:=List Dd) (fun l=>[slD l,slD l]) (fun l=>l.length≤1048576) fun _ K=>K (.bool true)
theorem F253:FF 29 C253:=by
 refine fitE [] (by simp) Tryz.f29 ⟨rfl,by decide +kernel,by decide +kernel⟩ (fun _ _ _ hk h=>hk _ h) ?_
 rintro l K h1 h
 refine ⟨Nat.le_of_ble_eq_true rfl,?_⟩
 repeat' (first|refine vz ?_|(conv=>whnf); first|with_reducible first|refine Sp.mk ?_ ?_|refine br_d (fun _=>?_) fun _=>?_|refine vM (fun _=>?_) fun _=>?_)
 refine Lp.mk ⟨Nat,fun i=>[(0,slD l),(1,slD l),(5,.int .i64 i)],fun i=>[],fun i=>i≤l.length,fun i=>l.length-i,⟨0,Nat.zero_le _,⟨⟨[],[],rfl,rfl,?_,?_⟩⟩⟩,?_⟩
 ·exact wq
 ·exact wq
 intro i i1
 dsimp only
 have hw:(l.getD (i:Int).toNat default).words=(l.getD (i:Int).toNat default).words:=rfl
 by_cases hi:i<l.length
 ·repeat' (first|refine vz ?_|(conv=>whnf); first|with_reducible first|refine Sp.mk ?_ ?_|refine br_d (fun _=>?_) fun _=>?_|refine vM (fun _=>?_) fun _=>?_)
  refine Dr.mk ⟨(.rd 0 (.rd 1 (.rd 2 (.rd 3 (.rd 4 (.rd 5 (.rd 6 (.rd 7 (.rd 8 .dn))))))))),by decide +kernel,?_⟩
  repeat' (first|refine vz ?_|(conv=>whnf); first|with_reducible first|refine Sp.mk ?_ ?_|refine br_d (fun _=>?_) fun _=>?_|refine vM (fun _=>?_) fun _=>?_)
  refine ⟨i+1,by omega,by omega,⟨⟨[],[],rfl,rfl,?_,?_⟩⟩⟩
  ·exact wq
  ·exact wq
 ·repeat' (first|refine vz ?_|(conv=>whnf); first|with_reducible first|refine Sp.mk ?_ ?_|refine br_d (fun _=>?_) fun _=>?_|refine vM (fun _=>?_) fun _=>?_)
  exact h
/-! ### Marks -/
end Go.Proofs.YtapeebjjljohdaaGreatDoor.Vc
end
section
/- Part YA: stores that break down, are made sure, and are mended. -/
namespace Go.Proofs.YtapeebjjljohdaaGreatDoor.Vc
open Go.Proofs
set_option maxRecDepth 10000
set_option maxHeartbeats 4000000
def optS (o:Option Store) (K:AV→Prop):Prop:=K (.tup [enSt (o.getD default),.bool o.isSome])
open Classical in
noncomputable def crashS (s:Store) (n:Int):Option Store:=if isSt s∧s.sure≤n∧n≤s.log.size then some ⟨s.saved,s.log.extract 0 n.toNat,s.sure⟩ else none
open Classical in
noncomputable def syncS (s:Store):Option Store:=if isSt s then some ⟨s.saved,s.log,s.log.size⟩ else none
open Classical in
noncomputable def mendS (s:Store):Option Store:=if isSt s then some ⟨s.saved,s.log.extract 0 (jn s.log),if (jn s.log:Int)<s.sure then (jn s.log:Int) else s.sure⟩ else none
def storeP (s:Store):Prop:=storeI s∧s.saved.size<4294967281
def C276:List AV→(AV→Prop)→Prop:=con (X:=Store × Int) (fun x=>[enSt x.1,.int .i64 x.2]) (fun x=>storeP x.1∧i64r x.2) fun x K=>optS (crashS x.1 x.2) K
def C275:=C276
theorem F275:FF 91 C275:=by
 refine fitE [(50,C222),(83,C35)] (by simp only [List.mem_cons,List.not_mem_nil,or_false]; rintro _ (rfl|rfl) <;> first|exact F222|exact F35) Tryz.f91 ⟨rfl,by decide +kernel,by decide +kernel⟩ (fun _ _ _ hk h=>hk _ h) ?_
 rintro ⟨⟨a,b,c⟩,n⟩ K ⟨hP,hn⟩ h
 refine ⟨Nat.le_of_ble_eq_true rfl,?_⟩
 have hI:=hP.1
 unfold optS crashS at h
 dsimp only [enSt,stC] at h hn hI ⊢
 have hI2:=hI.2.1
 have hI3:=hI.2.2
 dsimp only at hI2 hI3
 repeat' (first|refine vz ?_|(conv=>whnf); first|with_reducible first|refine Sp.mk ?_ ?_|refine br_d (fun _=>?_) fun _=>?_|refine vM (fun _=>?_) fun _=>?_)
 refine ⟨⟨a,b,c⟩,?_,⟨hP⟩,?_⟩
 ·exact wq
 intro o ho
 by_cases hS:isSt ⟨a,b,c⟩
 ·obtain rfl:=ho.2 hS
  have h0:0≤c:=hS.2.2.1
  repeat' (first|refine vz ?_|(conv=>whnf); first|with_reducible first|refine Sp.mk ?_ ?_|refine br_d (fun _=>?_) fun _=>?_|refine vM (fun _=>?_) fun _=>?_)
  refine ⟨(n,c,(b.size:Int)),?_,⟨trivial⟩,?_⟩
  ·exact wq
  dsimp only
  by_cases hc:c≤n∧n≤b.size
  ·rw [if_pos ⟨hS,hc⟩] at h
   repeat' (first|refine vz ?_|(conv=>whnf); first|with_reducible first|refine Sp.mk ?_ ?_|refine br_d (fun _=>?_) fun _=>?_|refine vM (fun _=>?_) fun _=>?_)
   refine Dr.mk ⟨(.rd 0 (.rd 1 (.rd 2 (.rd 3 (.rd 4 (.rd 5 (.rd 6 (.rd 7 (.rd 8 (.ef 9 (.rd 10 .dn) .no)))))))))),by decide +kernel,?_⟩
   repeat' (first|refine vz ?_|(conv=>whnf); first|with_reducible first|refine Sp.mk ?_ ?_|refine br_d (fun _=>?_) fun _=>?_|refine vM (fun _=>?_) fun _=>?_)
   all_goals exact h
  ·rw [if_neg fun q=>hc q.2] at h
   repeat' (first|refine vz ?_|(conv=>whnf); first|with_reducible first|refine Sp.mk ?_ ?_|refine br_d (fun _=>?_) fun _=>?_|refine vM (fun _=>?_) fun _=>?_)
   all_goals exact h
 ·obtain rfl:o=false:=by cases o with|false=>rfl|true=>exact absurd (ho.1 rfl) hS
  rw [if_neg fun q=>hS q.1] at h
  repeat' (first|refine vz ?_|(conv=>whnf); first|with_reducible first|refine Sp.mk ?_ ?_|refine br_d (fun _=>?_) fun _=>?_|refine vM (fun _=>?_) fun _=>?_)
  exact h
def C278:List AV→(AV→Prop)→Prop:=con (X:=Store) (fun x=>[enSt x]) storeP fun x K=>optS (syncS x) K
theorem F278:FF 25 C278:=by
 refine fitE [(52,C220)] (by simp only [List.mem_cons,List.not_mem_nil,or_false]; rintro _ rfl <;> first|exact F220) Tryz.f25 ⟨rfl,by decide +kernel,by decide +kernel⟩ (fun _ _ _ hk h=>hk _ h) ?_
 rintro ⟨a,b,c⟩ K hP h
 refine ⟨Nat.le_of_ble_eq_true rfl,?_⟩
 have hI:=hP.1
 unfold optS syncS at h
 dsimp only [enSt,stC] at h hI ⊢
 repeat' (first|refine vz ?_|(conv=>whnf); first|with_reducible first|refine Sp.mk ?_ ?_|refine br_d (fun _=>?_) fun _=>?_|refine vM (fun _=>?_) fun _=>?_)
 refine ⟨⟨a,b,c⟩,?_,⟨hP⟩,?_⟩
 ·exact wq
 intro o ho
 by_cases hS:isSt ⟨a,b,c⟩
 ·obtain rfl:=ho.2 hS
  rw [if_pos hS] at h
  repeat' (first|refine vz ?_|(conv=>whnf); first|with_reducible first|refine Sp.mk ?_ ?_|refine br_d (fun _=>?_) fun _=>?_|refine vM (fun _=>?_) fun _=>?_)
  exact h
 ·obtain rfl:o=false:=by cases o with|false=>rfl|true=>exact absurd (ho.1 rfl) hS
  rw [if_neg hS] at h
  repeat' (first|refine vz ?_|(conv=>whnf); first|with_reducible first|refine Sp.mk ?_ ?_|refine br_d (fun _=>?_) fun _=>?_|refine vM (fun _=>?_) fun _=>?_)
  exact h
def C277:=C278
theorem F277:FF 90 C277:=by
 refine fitE [(50,C222)] (by simp only [List.mem_cons,List.not_mem_nil,or_false]; rintro _ rfl <;> first|exact F222) Tryz.f90 ⟨rfl,by decide +kernel,by decide +kernel⟩ (fun _ _ _ hk h=>hk _ h) ?_
 rintro ⟨a,b,c⟩ K hP h
 refine ⟨Nat.le_of_ble_eq_true rfl,?_⟩
 have hI:=hP.1
 unfold optS syncS at h
 dsimp only [enSt,stC] at h hI ⊢
 repeat' (first|refine vz ?_|(conv=>whnf); first|with_reducible first|refine Sp.mk ?_ ?_|refine br_d (fun _=>?_) fun _=>?_|refine vM (fun _=>?_) fun _=>?_)
 refine ⟨⟨a,b,c⟩,?_,⟨hP⟩,?_⟩
 ·exact wq
 intro o ho
 by_cases hS:isSt ⟨a,b,c⟩
 ·obtain rfl:=ho.2 hS
  rw [if_pos hS] at h
  repeat' (first|refine vz ?_|(conv=>whnf); first|with_reducible first|refine Sp.mk ?_ ?_|refine br_d (fun _=>?_) fun _=>?_|refine vM (fun _=>?_) fun _=>?_)
  exact h
 ·obtain rfl:o=false:=by cases o with|false=>rfl|true=>exact absurd (ho.1 rfl) hS
  rw [if_neg hS] at h
  repeat' (first|refine vz ?_|(conv=>whnf); first|with_reducible first|refine Sp.mk ?_ ?_|refine br_d (fun _=>?_) fun _=>?_|refine vM (fun _=>?_) fun _=>?_)
  exact h
def C280:List AV→(AV→Prop)→Prop:=con (X:=Store) (fun x=>[enSt x]) storeP fun x K=>optS (mendS x) K
def C279:=C280
theorem F279:FF 19 C279:=by
 refine fitE [(50,C222),(28,C246)] (by simp only [List.mem_cons,List.not_mem_nil,or_false]; rintro _ (rfl|rfl) <;> first|exact F222|exact F246) Tryz.f19 ⟨rfl,by decide +kernel,by decide +kernel⟩ (fun _ _ _ hk h=>hk _ h) ?_
 rintro ⟨a,b,c⟩ K hP h
 refine ⟨Nat.le_of_ble_eq_true rfl,?_⟩
 have hI:=hP.1
 have hj:=jn_le b
 unfold optS mendS at h
 dsimp only [enSt,stC] at h hI ⊢
 repeat' (first|refine vz ?_|(conv=>whnf); first|with_reducible first|refine Sp.mk ?_ ?_|refine br_d (fun _=>?_) fun _=>?_|refine vM (fun _=>?_) fun _=>?_)
 refine ⟨⟨a,b,c⟩,?_,⟨hP⟩,?_⟩
 ·exact wq
 intro o ho
 by_cases hS:isSt ⟨a,b,c⟩
 ·obtain rfl:=ho.2 hS
  rw [if_pos hS] at h
  have hl:=hS.2.1
  dsimp only at hl
  repeat' (first|refine vz ?_|(conv=>whnf); first|with_reducible first|refine Sp.mk ?_ ?_|refine br_d (fun _=>?_) fun _=>?_|refine vM (fun _=>?_) fun _=>?_)
  refine ⟨b,?_,⟨by omega⟩,?_⟩
  ·exact wq
  repeat' (first|refine vz ?_|(conv=>whnf); first|with_reducible first|refine Sp.mk ?_ ?_|refine br_d (fun _=>?_) fun _=>?_|refine vM (fun _=>?_) fun _=>?_)
  refine Dr.mk ⟨(.rd 0 (.rd 1 (.rd 2 (.rd 3 (.rd 4 (.rd 5 (.rd 6 (.rd 7 (.rd 8 (.rd 9 (.rd 10 (.ef 11 (.rd 12 .dn) .no)))))))))))),by decide +kernel,?_⟩
  repeat' (first|refine vz ?_|(conv=>whnf); first|with_reducible first|refine Sp.mk ?_ ?_|refine br_d (fun _=>?_) fun _=>?_|refine vM (fun _=>?_) fun _=>?_)
  all_goals exact h
 ·obtain rfl:o=false:=by cases o with|false=>rfl|true=>exact absurd (ho.1 rfl) hS
  rw [if_neg hS] at h
  repeat' (first|refine vz ?_|(conv=>whnf); first|with_reducible first|refine Sp.mk ?_ ?_|refine br_d (fun _=>?_) fun _=>?_|refine vM (fun _=>?_) fun _=>?_)
  exact h
end Go.Proofs.YtapeebjjljohdaaGreatDoor.Vc
end
section
/- Part TK: places that are drawn. -/
namespace Go.Proofs.YtapeebjjljohdaaGreatDoor.Vc
open Go.Proofs
set_option maxRecDepth 10000
set_option maxHeartbeats 4000000
structure drawnP (x:Place):Prop where
 p0:0≤x.p
 p1:x.p≤7
 bl:x.bs.length≤4
 bb:∀ b∈x.bs,0≤b∧b≤64
 rl:x.rules.length≤4
 rr:∀ r∈x.rules,r.size≤10000
theorem drawnP.I {x:Place} (h:drawnP x):placeI x:=⟨⟨⟨⟨by have:=h.p0; show -9223372036854775808≤x.p; omega,by have:=h.p1; show x.p≤9223372036854775807; omega⟩,fun b hb=>by have:=h.bb b hb; exact ⟨by omega,by omega⟩⟩,by have:=h.bl; show x.bs.length<_; omega⟩,by have:=h.rl; omega,fun r hr=>by have:=h.rr r hr; omega⟩
theorem drawnP.len {x:Place} (h:drawnP x):lenI x:=⟨by have:=h.bl; omega,by have:=h.rl; omega⟩
theorem ttext_size (h:House) (t:List Mark):(ttext (h,t)).size≤10000:=by
 unfold ttext
 split
 ·rename_i g
  exact text_size (bodies_of g.1) g.2.2 g.2.1
 ·exact Nat.zero_le _
theorem set0_ext {l:List ByteArray} {x:ByteArray} {i:Nat} (h:0<l.length):encS ((l.set 0 x).getD i ⟨#[]⟩)=setF (fun j=>encS (l.getD j ⟨#[]⟩)) 0 (encS x) (0+i):=by
 rw [Nat.zero_add]
 unfold setF
 cases i with
 |zero=>cases l <;> first|rfl|(simp at h)
 |succ i=>cases l <;> first|rfl|simp
def C151:GC:=conG (X:=Rd × Int) (fun x=>[.ptr 0 0,.int .i64 x.2]) (fun x=>[rdO x.1.b x.1.p]) (fun x=>x.1.okn 400000000∧i64r x.2) fun x K=>∀ (y:Place) (p':Int),x.1.p≤p'→p'≤x.1.p+250→drawnP y→K (enPl y) [rdO x.1.b p']
theorem F151:GG 70 C151:=by
 refine fitG [(107,C173)] (by simp only [List.mem_cons,List.not_mem_nil,or_false]; rintro _ rfl <;> first|exact F173) [(38,C52),(40,C53),(115,C59),(116,C60)] (by simp only [List.mem_cons,List.not_mem_nil,or_false]; rintro _ (rfl|rfl|rfl|rfl) <;> first|exact F52|exact F53|exact F59|exact F60) Tryz.f70 ⟨rfl,by decide +kernel,by decide +kernel⟩ (by intro x K K2 hk h; (try dsimp only at h ⊢); intros; apply hk; first|exact h|(apply h <;> assumption)) ?_
 rintro ⟨⟨b,p⟩,n⟩ K ⟨⟨h1,h2,h3,h4⟩,h5⟩ h
 refine ⟨Nat.le_of_ble_eq_true rfl,?_⟩
 dsimp only at h h1 h2 h3 h4 h5 ⊢
 repeat' (first|refine vz ?_|(conv=>whnf); first|with_reducible first|refine Sp.mk ?_ ?_|refine br_d (fun _=>?_) fun _=>?_|refine vM (fun _=>?_) fun _=>?_)
 refine ⟨_,_,[0],[],rfl,?_,?_,(⟨b,p⟩,0),rfl,rfl,⟨⟨h1,h2,h3,by dsimp only; omega⟩,by unfold i64r; dsimp only; omega⟩,?_⟩
 ·exact wq
 ·exact wq
 rintro ⟨P,bs⟩ p1 g1 g2 g3 g4 g5
 dsimp only [enH] at g1 g2 g3 g4 g5 ⊢
 repeat' (first|refine vz ?_|(conv=>whnf); first|with_reducible first|refine Sp.mk ?_ ?_|refine br_d (fun _=>?_) fun _=>?_|refine vM (fun _=>?_) fun _=>?_)
 refine ⟨_,_,[0],[],rfl,?_,?_,(⟨b,p1⟩,3),rfl,rfl,⟨⟨h1,h2,?_,?_⟩,?_⟩,?_⟩
 ·repeat' ((conv=>whnf); first|with_reducible exact True.intro|exact vW|with_reducible refine And.intro ?_ ?_)
  try exact Chk.mk (by rw [pw_sh (by assumption)])
 ·exact wq
 ·dsimp only; omega
 ·dsimp only; omega
 ·unfold i64r; dsimp only; omega
 intro k2 p2 a0 a1 a2
 dsimp only at a0 a1 a2
 repeat' (first|refine vz ?_|(conv=>whnf); first|with_reducible first|refine Sp.mk ?_ ?_|refine br_d (fun _=>?_) fun _=>?_|refine vM (fun _=>?_) fun _=>?_)
 refine Lp.mk ⟨List ByteArray × Int × Int,fun x=>[(0,.ptr 0 0),(1,.int .i64 n),(4,.ptr 1 0),(5,.ptr 2 0),(6,.int .i64 x.2.1)],
  fun x=>[rdO b x.2.2,.box [.int .i64 0,.nils,.nils],.box [.int .i64 P,slI bs,.row 3 1 0 x.1.length],.row 1 x.1.length fun j=>encS (x.1.getD j ⟨#[]⟩)],
  fun x=>0≤x.2.1∧x.2.1+x.1.length=1+k2∧p2≤x.2.2∧x.2.2≤p2+40*x.1.length∧∀ r∈x.1,r.size≤10000,fun x=>x.2.1.toNat,⟨([],1+k2,p2),⟨by show 0≤1+k2; omega,by simp,by dsimp only; omega,by simp,by simp⟩,⟨⟨[some 0,some 1,some 2,none],[],rfl,rfl,?_,?_⟩⟩⟩,?_⟩
 ·exact wq
 ·exact wq
 rintro ⟨l,j,q⟩ ⟨i1,i2,i3,i4,i5⟩
 dsimp only at i1 i2 i3 i4 i5 ⊢
 have hI:House.i64 ⟨P,bs⟩:=⟨⟨by dsimp only; omega,by dsimp only; omega⟩,fun b hb=>by have:=g5 b hb; exact ⟨by omega,by omega⟩⟩
 repeat' (first|refine vz ?_|(conv=>whnf); first|with_reducible first|refine Sp.mk ?_ ?_|refine br_d (fun _=>?_) fun _=>?_|refine vM (fun _=>?_) fun _=>?_)
 ·rename_i hj
  refine Dr.mk ⟨(.rd 0 (.rd 1 (.rd 2 (.rd 3 (.rd 4 (.rd 5 (.rd 6 (.ef 7 (.ef 8 (.ef 9 (.ef 10 (.rd 11 (.ef 12 .dn .no)) .no) .no) .no) .no)))))))),by decide +kernel,?_⟩
  repeat' (first|refine vz ?_|(conv=>whnf); first|with_reducible first|refine Sp.mk ?_ ?_|refine br_d (fun _=>?_) fun _=>?_|refine vM (fun _=>?_) fun _=>?_)
  refine ⟨_,_,[0],[],rfl,?_,?_,⟨⟨b,q⟩,⟨P,bs⟩,0⟩,rfl,rfl,⟨⟨h1,h2,by dsimp only; omega,by dsimp only; omega⟩,hI,by dsimp only; omega,by unfold i64r; dsimp only; omega⟩,?_⟩
  ·exact wq
  ·exact wq
  intro t p' t1 t2 t3 t4
  dsimp only at t1 t2 t3 t4 ⊢
  repeat' (first|refine vz ?_|(conv=>whnf); first|with_reducible first|refine Sp.mk ?_ ?_|refine br_d (fun _=>?_) fun _=>?_|refine vM (fun _=>?_) fun _=>?_)
  refine ⟨(⟨P,bs⟩,t),?_,⟨hI,by dsimp only; omega,t4,by dsimp only; omega⟩,?_⟩
  ·exact wq
  have hts:=ttext_size ⟨P,bs⟩ t
  repeat' (first|refine vz ?_|(conv=>whnf); first|with_reducible first|refine Sp.mk ?_ ?_|refine br_d (fun _=>?_) fun _=>?_|refine vM (fun _=>?_) fun _=>?_)
  refine ⟨(l ++ [ttext (⟨P,bs⟩,t)],j-1,p'),⟨by dsimp only; omega,by simp only [List.length_append,List.length_cons,List.length_nil]; omega,by dsimp only; omega,by simp only [List.length_append,List.length_cons,List.length_nil]; omega,fun r hr=>?_⟩,by dsimp only; omega,⟨⟨[some 0,some 1,some 2,some 5],[],rfl,rfl,?_,?_⟩⟩⟩
  ·rcases List.mem_append.1 hr with hr|hr
   ·exact i5 r hr
   ·rw [List.mem_singleton.1 hr]; exact hts
  ·exact wq
  ·repeat' ((conv=>whnf); first|with_reducible exact True.intro|exact vW|with_reducible refine And.intro ?_ ?_)
   all_goals first|exact Chk.mk (ext_push rfl)|exact Chk.mk ⟨rfl,by simp⟩
 ·have hl:l.length≤3:=by omega
  have hD:∀ (P':Int) (l':List ByteArray),0≤P'→P'≤7→l'.length≤4→(∀ r∈l',r.size≤10000)→drawnP ⟨P',bs,l'⟩:=fun P' l' q0 q1 q2 q3=>⟨q0,q1,g4,g5,q2,q3⟩
  repeat' (first|refine vz ?_|(conv=>whnf); first|with_reducible first|refine Sp.mk ?_ ?_|refine br_d (fun _=>?_) fun _=>?_|refine vM (fun _=>?_) fun _=>?_)
  refine ⟨_,_,[0],[],rfl,?_,?_,(⟨b,q⟩,n),rfl,rfl,⟨⟨h1,h2,by dsimp only; omega,by dsimp only; omega⟩,h5⟩,?_⟩
  ·exact wq
  ·exact wq
  intro v p' v1 v2
  dsimp only at v1 v2 ⊢
  repeat' (first|refine vz ?_|(conv=>whnf); first|with_reducible first|refine Sp.mk ?_ ?_|refine br_d (fun _=>?_) fun _=>?_|refine vM (fun _=>?_) fun _=>?_)
  ·refine ⟨_,_,[0],[],rfl,?_,?_,(⟨b,p'⟩,3),rfl,rfl,⟨⟨h1,h2,?_,?_⟩,?_⟩,?_⟩
   ·repeat' ((conv=>whnf); first|with_reducible exact True.intro|exact vW|with_reducible refine And.intro ?_ ?_)
    try exact Chk.mk (by rw [pw_sh (by assumption)])
   ·exact wq
   ·dsimp only; omega
   ·dsimp only; omega
   ·unfold i64r; dsimp only; omega
   intro k5 p5 e0 e1 e2
   dsimp only at e0 e1 e2
   repeat' (first|refine vz ?_|(conv=>whnf); first|with_reducible first|refine Sp.mk ?_ ?_|refine br_d (fun _=>?_) fun _=>?_|refine vM (fun _=>?_) fun _=>?_)
   ·refine ⟨_,_,[some 0],[3],rfl,rfl,?_,?_,h ⟨P,bs,l.set 0 ⟨#[40,65,49,41]⟩⟩ p5 (by omega) (by omega) (hD P _ (by omega) (by omega) (by rw [List.length_set]; omega) (fun r hr=>(List.mem_or_eq_of_mem_set hr).elim (fun hr=>i5 r hr) (fun e=>by rw [e]; exact (by decide:(4:Nat)≤10000))))⟩
    ·repeat' ((conv=>whnf); first|with_reducible exact True.intro|exact vW|with_reducible refine And.intro ?_ ?_)
     all_goals exact Chk.mk ⟨by rw [List.length_set],by omega,fun i _=>set0_ext (by omega)⟩
    ·exact wq
   ·refine ⟨_,_,[some 0],[3],rfl,rfl,?_,?_,h ⟨7,bs,l⟩ p5 (by omega) (by omega) (hD 7 l (by omega) (by omega) (by omega) i5)⟩
    ·repeat' ((conv=>whnf); first|with_reducible exact True.intro|exact vW|with_reducible refine And.intro ?_ ?_)
     all_goals exact Chk.mk ⟨rfl,by omega,fun i _=>by rw [Nat.zero_add]⟩
    ·exact wq
   ·refine ⟨_,_,[some 0],[],rfl,rfl,?_,?_,h default p5 (by omega) (by omega) ⟨by decide,by decide,by decide,(fun _ hb=>by cases hb),by decide,(fun _ hb=>by cases hb)⟩⟩
    ·exact wq
    ·exact wq
  ·refine ⟨_,_,[some 0],[3],rfl,rfl,?_,?_,h ⟨P,bs,l⟩ p' (by omega) (by omega) (hD P l (by omega) (by omega) (by omega) i5)⟩
   ·repeat' ((conv=>whnf); first|with_reducible exact True.intro|exact vW|with_reducible refine And.intro ?_ ?_)
    all_goals exact Chk.mk ⟨rfl,by omega,fun i _=>by rw [Nat.zero_add]⟩
   ·exact wq
def bytesI (l:List Int):Prop:=(∀ n∈l,u8r n)∧l.length<9223372036854775808
/-! ### A further body leaves terms what they are -/
theorem no_place:¬ placeOk default:=fun h=>by
 have:=h.1.1.1
 exact absurd this (by decide)
end Go.Proofs.YtapeebjjljohdaaGreatDoor.Vc
end
section
/- Part TL: new desks. -/
namespace Go.Proofs.YtapeebjjljohdaaGreatDoor.Vc
open Go.Proofs
set_option maxRecDepth 10000
set_option maxHeartbeats 4000000
def newDe (x:Place):Desk:=if placeOk x then ⟨x,[]⟩ else default
theorem placeOk_short {x:Place} (h:placeOk x):x.rules.length≤100000000∧x.bs.length≤100000000:=⟨Nat.le_trans h.2.1.2 (by omega),Nat.le_trans h.1.2.1 (by omega)⟩
theorem drawnP.lenD {x:Place} (h:drawnP x):lenD ⟨x,[]⟩:=⟨h.len,(by decide:0<9223372036854775808),fun _ hb=>by cases hb⟩
theorem lenD0:lenD default:=⟨⟨by decide,by decide⟩,by decide,fun _ hb=>by cases hb⟩
end Go.Proofs.YtapeebjjljohdaaGreatDoor.Vc
end
section
/- Part TN: a deed at a desk, by the reference. -/
namespace Go.Proofs.YtapeebjjljohdaaGreatDoor.Vc
open Go.Proofs
set_option maxRecDepth 10000
set_option maxHeartbeats 4000000
def deG (d:Desk):AV:=.agg [.int .i64 d.now.p,slI d.now.bs,slS d.now.rules,.row 0 3 0 d.past.length]
def psO (l:List Place):Obj:=.row 3 l.length fun i=>plC (l.getD i default)
def shortD (d:Desk):Prop:=shortP d.now∧d.past.length≤100000∧∀ p∈d.past,shortP p
def C198:GC:=conG (X:=Desk) (fun d=>[enDe d]) (fun _=>[]) shortD fun d K=>K (deG d) [psO d.past]
theorem F198:GG 44 C198:=by
 refine fitG [(80,C158)] (by simp only [List.mem_cons,List.not_mem_nil,or_false]; rintro _ rfl <;> first|exact F158) [] (by simp) Tryz.f44 ⟨rfl,by decide +kernel,by decide +kernel⟩ (by intro x K K2 hk h; (try dsimp only at h ⊢); intros; apply hk; first|exact h|(apply h <;> assumption)) ?_
 rintro ⟨⟨p,bs,rs⟩,l⟩ K ⟨h1,h2,h3⟩ h
 refine ⟨Nat.le_of_ble_eq_true rfl,?_⟩
 unfold deG psO at h
 dsimp only [enDe,deC] at h h1 h2 h3 ⊢
 repeat' (first|refine vz ?_|(conv=>whnf); first|with_reducible first|refine Sp.mk ?_ ?_|refine br_d (fun _=>?_) fun _=>?_|refine vM (fun _=>?_) fun _=>?_)
 refine ⟨⟨p,bs,rs⟩,?_,⟨h1⟩,?_⟩
 ·exact wq
 dsimp only [enPl,plC]
 repeat' (first|refine vz ?_|(conv=>whnf); first|with_reducible first|refine Sp.mk ?_ ?_|refine br_d (fun _=>?_) fun _=>?_|refine vM (fun _=>?_) fun _=>?_)
 refine Lp.mk ⟨Nat,fun i=>[(1,.ptr 0 0),(2,.ptr 1 0),(3,.ptr 2 0),(4,.int .i64 i)],fun i=>[.box (deC ⟨⟨p,bs,rs⟩,l⟩),.box [.int .i64 0,.nils,.nils,.nils],.box [.int .i64 p,slI bs,slS rs,.row 3 3 0 (l.take i).length],psO (l.take i)],fun i=>i≤l.length,fun i=>l.length-i,⟨0,Nat.zero_le _,⟨⟨[some 0,some 1,some 2,none],[],rfl,rfl,?_,?_⟩⟩⟩,?_⟩
 ·exact wq
 ·exact wq
 intro i i1
 dsimp only [deC,psO]
 have hti:(l.take i).length≤100000:=by rw [List.length_take]; omega
 repeat' (first|refine vz ?_|(conv=>whnf); first|with_reducible first|refine Sp.mk ?_ ?_|refine br_d (fun _=>?_) fun _=>?_|refine vM (fun _=>?_) fun _=>?_)
 ·rename_i hi
  have hi:i<l.length:=by omega
  have hsn:l.take (i+1)=l.take i ++ [l.getD i default]:=take_succ' default hi
  refine Dr.mk ⟨(.rd 0 (.rd 1 (.rd 2 (.rd 3 (.rd 4 (.rd 5 (.rd 6 (.ef 7 (.ef 8 (.ef 9 (.rd 10 (.ef 11 .dn .no)) .no) .no) .no)))))))),by decide +kernel,?_⟩
  repeat' (first|refine vz ?_|(conv=>whnf); first|with_reducible first|refine Sp.mk ?_ ?_|refine br_d (fun _=>?_) fun _=>?_|refine vM (fun _=>?_) fun _=>?_)
  refine ⟨l.getD i default,?_,⟨h3 _ (getD_mem' hi)⟩,?_⟩
  ·exact wq
  dsimp only [enPl,plC]
  repeat' (first|refine vz ?_|(conv=>whnf); first|with_reducible first|refine Sp.mk ?_ ?_|refine br_d (fun _=>?_) fun _=>?_|refine vM (fun _=>?_) fun _=>?_)
  refine ⟨i+1,by omega,by omega,⟨⟨[some 0,some 1,some 2,some 5],[],rfl,rfl,?_,?_⟩⟩⟩
  ·exact wq
  ·repeat' ((conv=>whnf); first|with_reducible exact True.intro|exact vW|with_reducible refine And.intro ?_ ?_)
   all_goals first|exact Chk.mk ⟨rfl,by rw [hsn,List.length_append]; rfl⟩|exact Chk.mk (by rw [hsn]; exact ext_push (enc:=plC) (d:=default) (l:=l.take i) (x:=l.getD i default) rfl)
 ·rename_i hi
  rw [List.take_of_length_le (by omega)]
  repeat' (first|refine vz ?_|(conv=>whnf); first|with_reducible first|refine Sp.mk ?_ ?_|refine br_d (fun _=>?_) fun _=>?_|refine vM (fun _=>?_) fun _=>?_)
  refine ⟨_,_,[some 3],[],rfl,rfl,?_,?_,h⟩
  ·exact wq
  ·exact wq
def backD:Dd:=⟨4,0,0,⟨#[]⟩⟩
def pushP (l:List Place) (x:Place):List Place:=if 8<(l ++ [x]).length then (l ++ [x]).drop 1 else l ++ [x]
def doD (d:Desk) (a:Dd):Option Desk :=
 if a=backD∧0<d.past.length then some ⟨d.past.getD (d.past.length-1) default,d.past.take (d.past.length-1)⟩
 else if placeOk (madeP d.now a)∧ptext (madeP d.now a)≠ptext d.now then some ⟨madeP d.now a,pushP d.past d.now⟩ else none
def afterD (d:Desk) (a:Dd):Desk:=if deskOk d then (doD d a).getD d else default
def canD (d:Desk) (a:Dd):Bool:=decide (deskOk d) && (doD d a).isSome
structure De where
 d:Desk
 a:Dd
def C183:List AV→(AV→Prop)→Prop:=con (X:=De) (fun x=>[enDe x.d,ded x.a]) (fun x=>deskI x.d∧dedI x.a) fun x K=>K (.tup [enDe (afterD x.d x.a),.bool (canD x.d x.a)])
theorem deskOk_short {d:Desk} (h:deskOk d):shortD d:=⟨placeOk_short h.1,Nat.le_trans h.2.1 (by decide),fun p hp=>placeOk_short (h.2.2 p hp)⟩
theorem placeI0:placeI default:=⟨⟨⟨⟨by decide,by decide⟩,fun _ hb=>by cases hb⟩,by decide⟩,by decide,fun _ hb=>by cases hb⟩
theorem madeP_I {x:Place} {a:Dd} (h:placeI x) (hs:shortP x) (ha:dedI a):placeI (madeP x a):=by
 obtain ⟨⟨h1,h2⟩,h3,h4⟩:=h
 have s1:=hs.1
 have s2:=hs.2
 have b2:=h1.2
 unfold madeP
 split
 ·refine ⟨⟨⟨h1.1,fun b hb=>(List.mem_append.1 hb).elim (fun hb=>b2 b hb) fun hb=>by rw [List.mem_singleton.1 hb]; exact ha.2.1⟩,?_⟩,h3,h4⟩
  show (x.bs ++ [a.a]).length<_
  simp only [List.length_append,List.length_cons,List.length_nil]
  omega
 ·split
  ·refine ⟨⟨h1,h2⟩,?_,fun r hr=>(List.mem_append.1 hr).elim (fun hr=>h4 r hr) fun hr=>by rw [List.mem_singleton.1 hr]; exact ha.2.2.2⟩
   show (x.rules ++ [a.words]).length<_
   simp only [List.length_append,List.length_cons,List.length_nil]
   omega
  ·split
   ·refine ⟨⟨h1,h2⟩,by show (x.rules.set _ _).length<_; rw [List.length_set]; exact h3,fun r hr=>(List.mem_or_eq_of_mem_set hr).elim (fun hr=>h4 r hr) fun hr=>by rw [hr]; exact ha.2.2.2⟩
   ·split
    ·refine ⟨⟨h1,h2⟩,?_,fun r hr=>(List.mem_append.1 hr).elim (fun hr=>h4 r (List.mem_of_mem_take hr)) fun hr=>h4 r (List.mem_of_mem_drop hr)⟩
     show (x.rules.take _ ++ x.rules.drop _).length<_
     simp only [List.length_append,List.length_take,List.length_drop]
     omega
    ·exact placeI0
theorem ext_take {α:Type} {enc:α→List AV} {d:α} {l:List α} {n:Nat} (hn:n≤l.length):n-Int.toNat 0=(l.take n).length∧∀ i,i<n-Int.toNat 0→enc (l.getD (0+Int.toNat 0+i) d)=enc ((l.take n).getD i d):=by
 refine ⟨by rw [List.length_take]; show n-0=_; omega,fun i hi=>?_⟩
 rw [show 0+Int.toNat 0+i=i by show 0+0+i=i; omega,List.getD_eq_getElem?_getD,List.getD_eq_getElem?_getD,List.getElem?_take_of_lt (by exact hi)]
theorem ext_pushV {α:Type} {enc:α→List AV} {d:α} {l:List α} {x:α} {g:Nat→List AV} (hg:g 0=enc x):l.length+1=(l ++ [x]).length∧∀ i,i<l.length+1→appF l.length (fun i=>enc (l.getD i d)) g (0+i)=enc ((l ++ [x]).getD i d):=by
 have h:=ext_push (enc:=enc) (d:=d) (l:=l) (x:=x) (g:=g) hg
 refine ⟨h.1.symm,fun i hi=>?_⟩
 rw [Nat.zero_add]
 exact (h.2 i (by rw [h.1]; exact hi)).symm
theorem ext_dropV {α:Type} {enc:α→List AV} {d:α} {l:List α} {x:α} {g:Nat→List AV} (hg:g 0=enc x):((l.length+1:Nat):Int).toNat-Int.toNat 1=((l ++ [x]).drop 1).length∧∀ i,i<((l.length+1:Nat):Int).toNat-Int.toNat 1→appF l.length (fun i=>enc (l.getD i d)) g (0+Int.toNat 1+i)=enc (((l ++ [x]).drop 1).getD i d):=by
 have h:=ext_push (enc:=enc) (d:=d) (l:=l) (x:=x) (g:=g) hg
 refine ⟨by rw [List.length_drop,h.1]; rfl,fun i hi=>?_⟩
 have e:((l.length+1:Nat):Int).toNat-Int.toNat 1=l.length:=rfl
 rw [e] at hi
 rw [show 0+Int.toNat 1+i=1+i by rw [Nat.zero_add]; rfl,List.getD_eq_getElem?_getD (l:=(l ++ [x]).drop 1),List.getElem?_drop,← List.getD_eq_getElem?_getD]
 exact (h.2 (1+i) (by rw [h.1]; omega)).symm
theorem afterD_some {d e:Desk} {a:Dd} (h:deskOk d) (he:doD d a=some e):afterD d a=e:=by
 unfold afterD
 rw [if_pos h,he]
 rfl
theorem canD_some {d e:Desk} {a:Dd} (h:deskOk d) (he:doD d a=some e):canD d a=true:=by
 unfold canD
 rw [decide_eq_true h,he]
 rfl
theorem afterD_none {d:Desk} {a:Dd} (h:deskOk d) (he:doD d a=none):afterD d a=d:=by
 unfold afterD
 rw [if_pos h,he]
 rfl
theorem canD_none {d:Desk} {a:Dd} (he:doD d a=none):canD d a=false:=by
 unfold canD
 rw [he]
 simp
theorem F183:FF 63 C183:=by
 refine fitXE [(12,C139),(100,C199),(45,C127),(64,C142)] (by simp only [List.mem_cons,List.not_mem_nil,or_false]; rintro _ (rfl|rfl|rfl|rfl) <;> first|exact F139|exact F199|exact F127|exact F142) [(44,C198)] (by simp only [List.mem_cons,List.not_mem_nil,or_false]; rintro _ rfl; exact F198) Tryz.f63 ⟨rfl,by decide +kernel,by decide +kernel⟩ (fun _ _ _ hk h=>hk _ h) ?_
 rintro ⟨⟨⟨p,bs,rs⟩,l⟩,⟨k,a,b,w⟩⟩ K ⟨hI,ha⟩ h
 refine ⟨Nat.le_of_ble_eq_true rfl,?_⟩
 dsimp only [enDe,deC,ded,encD] at hI ha ⊢
 repeat' (first|refine vz ?_|(conv=>whnf); first|with_reducible first|refine Sp.mk ?_ ?_|refine br_d (fun _=>?_) fun _=>?_|refine vM (fun _=>?_) fun _=>?_)
 refine ⟨⟨⟨p,bs,rs⟩,l⟩,?_,⟨hI⟩,?_⟩
 ·exact wq
 by_cases hO:deskOk ⟨⟨p,bs,rs⟩,l⟩
 ·have hs:=deskOk_short hO
  have hs2:=hs.2.1
  dsimp only at hs2
  repeat' (first|refine vz ?_|(conv=>whnf); first|with_reducible first|refine Sp.mk ?_ ?_|refine br_d (fun _=>?_) fun _=>?_|refine vM (fun _=>?_) fun _=>?_)
  refine ⟨_,_,[],[],rfl,?_,?_,⟨⟨p,bs,rs⟩,l⟩,rfl,rfl,⟨hs⟩,?_⟩
  ·exact wq
  ·exact wq
  dsimp only [deG,psO]
  repeat' ((conv=>whnf); first|with_reducible refine wk_at 9 ?_|with_reducible refine wk_at1 9 ?_|with_reducible refine wk_at2 9 ?_|refine vA ?_|with_reducible first|refine v8 ?_|refine Sp.mk ?_ ?_|refine vS ?_|refine vR ?_|refine vB ?_|refine br_nt ?_|refine br_tt ?_|refine br_ff ?_|refine vP ?_|refine vQ ?_|refine vT ?_|refine vF ?_|refine br_and ?_|refine br_or ?_|refine br_d (fun _=>?_) fun _=>?_|refine vM (fun _=>?_) fun _=>?_)
  ·rename_i q1 q2 q3 q4 q5
   have hl:0<l.length:=by omega
   have e0:doD ⟨⟨p,bs,rs⟩,l⟩ ⟨k,a,b,w⟩=some ⟨l.getD (l.length-1) default,l.take (l.length-1)⟩:=if_pos ⟨by subst q1; subst q2; subst q3; subst q4; rfl,hl⟩
   replace h:K (.tup [enDe (afterD ⟨⟨p,bs,rs⟩,l⟩ ⟨k,a,b,w⟩),.bool (canD ⟨⟨p,bs,rs⟩,l⟩ ⟨k,a,b,w⟩)]):=h
   rw [afterD_some hO e0,canD_some hO e0] at h
   have e1:((l.length:Int)-1).toNat=l.length-1:=by omega
   refine ⟨_,?_,h⟩
   rw [e1,Nat.zero_add]
   repeat' ((conv=>whnf); first|with_reducible exact True.intro|exact vW|with_reducible refine And.intro ?_ ?_)
   all_goals exact Chk.mk (ext_take (enc:=plC) (d:=default) (l:=l) (n:=l.length-1) (by omega))
  all_goals
   have hnb:¬ ((⟨k,a,b,w⟩:Dd)=backD∧0<l.length):=by
    rintro ⟨e,e2⟩
    have e3:=congrArg Dd.kind e
    have e4:=congrArg Dd.a e
    have e5:=congrArg Dd.b e
    have e6:=congrArg Dd.words e
    dsimp only [backD] at e3 e4 e5 e6
    first|omega|exact absurd e6 (by assumption)
   refine ⟨Wk.go [(2,.ptr 0 0),(3,.ptr 1 0),(4,.ptr 2 0),(6,.ptr 3 0)] [.box (deC ⟨⟨p,bs,rs⟩,l⟩),.box (encD ⟨k,a,b,w⟩),.box [.int .i64 0,.nils,.nils,.nils],.box [.int .i64 p,slI bs,slS rs,.row 4 3 0 l.length],psO l] ⟨⟨[some 0,some 1,some 2,some 4,some 3],[],rfl,rfl,?_,?_⟩⟩ ?_⟩
   ·exact wq
   ·exact wq
   dsimp only [deC,encD,psO]
   repeat' (first|refine vz ?_|(conv=>whnf); first|with_reducible first|refine Sp.mk ?_ ?_|refine br_d (fun _=>?_) fun _=>?_|refine vM (fun _=>?_) fun _=>?_)
   refine ⟨⟨⟨p,bs,rs⟩,⟨k,a,b,w⟩⟩,?_,⟨hI.1,hs.1,ha⟩,?_⟩
   ·exact wq
   have hMI:=madeP_I (a:=⟨k,a,b,w⟩) hI.1 hs.1 ha
   replace h:K (.tup [enDe (afterD ⟨⟨p,bs,rs⟩,l⟩ ⟨k,a,b,w⟩),.bool (canD ⟨⟨p,bs,rs⟩,l⟩ ⟨k,a,b,w⟩)]):=h
   have eD:doD ⟨⟨p,bs,rs⟩,l⟩ ⟨k,a,b,w⟩=_:=if_neg hnb
   dsimp only at hMI eD ⊢
   generalize madeP ⟨p,bs,rs⟩ ⟨k,a,b,w⟩=M at hMI eD ⊢
   obtain ⟨mp,mb,mr⟩:=M
   dsimp only [enPl,plC]
   repeat' (first|refine vz ?_|(conv=>whnf); first|with_reducible first|refine Sp.mk ?_ ?_|refine br_d (fun _=>?_) fun _=>?_|refine vM (fun _=>?_) fun _=>?_)
   refine Dr.mk ⟨(.rd 0 (.ef 1 (.rd 2 (.rd 3 (.rd 4 (.rd 6 (.rd 7 (.ef 5 (.ef 8 (.rd 9 (.rd 10 .dn)) .no) .no)))))) .no)),by decide +kernel,?_⟩
   repeat' (first|refine vz ?_|(conv=>whnf); first|with_reducible first|refine Sp.mk ?_ ?_|refine br_d (fun _=>?_) fun _=>?_|refine vM (fun _=>?_) fun _=>?_)
   refine ⟨⟨mp,mb,mr⟩,?_,⟨hMI⟩,?_⟩
   ·exact wq
   repeat' (first|refine vz ?_|(conv=>whnf); first|with_reducible first|refine Sp.mk ?_ ?_|refine br_d (fun _=>?_) fun _=>?_|refine vM (fun _=>?_) fun _=>?_)
   ·rename_i hp
    replace hp:placeOk ⟨mp,mb,mr⟩:=hp
    refine ⟨⟨mp,mb,mr⟩,?_,⟨hMI⟩,?_⟩
    ·exact wq
    repeat' (first|refine vz ?_|(conv=>whnf); first|with_reducible first|refine Sp.mk ?_ ?_|refine br_d (fun _=>?_) fun _=>?_|refine vM (fun _=>?_) fun _=>?_)
    refine ⟨⟨p,bs,rs⟩,?_,⟨hI.1⟩,?_⟩
    ·exact wq
    by_cases he:ptext ⟨mp,mb,mr⟩=ptext ⟨p,bs,rs⟩
    ·replace eD:doD ⟨⟨p,bs,rs⟩,l⟩ ⟨k,a,b,w⟩=none:=eD.trans (if_neg fun q=>q.2 he)
     rw [afterD_none hO eD,canD_none eD] at h
     repeat' (first|refine vz ?_|(conv=>whnf); first|with_reducible first|refine Sp.mk ?_ ?_|refine br_d (fun _=>?_) fun _=>?_|refine vM (fun _=>?_) fun _=>?_)
     refine ⟨_,?_,h⟩
     repeat' ((conv=>whnf); first|with_reducible exact True.intro|exact vW|with_reducible refine And.intro ?_ ?_)
     all_goals exact Chk.mk ⟨rfl,fun i _=>by dsimp only; rw [Nat.zero_add]; rfl⟩
    ·replace eD:doD ⟨⟨p,bs,rs⟩,l⟩ ⟨k,a,b,w⟩=some ⟨⟨mp,mb,mr⟩,pushP l ⟨p,bs,rs⟩⟩:=eD.trans (if_pos ⟨hp,he⟩)
     rw [afterD_some hO eD,canD_some hO eD] at h
     by_cases h8:8<(l ++ [(⟨p,bs,rs⟩:Place)]).length
     ·rw [show pushP l ⟨p,bs,rs⟩=(l ++ [(⟨p,bs,rs⟩:Place)]).drop 1 from if_pos h8] at h
      simp only [List.length_append,List.length_cons,List.length_nil] at h8
      repeat' (first|refine vz ?_|(conv=>whnf); first|with_reducible first|refine Sp.mk ?_ ?_|refine br_d (fun _=>?_) fun _=>?_|refine vM (fun _=>?_) fun _=>?_)
      first
      |refine ⟨_,?_,h⟩
      |refine ⟨Chk.mk ⟨⟨by show 0+1+(l.length+1-1)≤l.length+1; omega,trivial⟩,trivial⟩,_,?_,h⟩
      repeat' ((conv=>whnf); first|with_reducible exact True.intro|exact vW|with_reducible refine And.intro ?_ ?_)
      all_goals exact Chk.mk (ext_dropV (enc:=plC) (d:=default) (l:=l) (x:=⟨p,bs,rs⟩) rfl)
     ·rw [show pushP l ⟨p,bs,rs⟩=l ++ [(⟨p,bs,rs⟩:Place)] from if_neg h8] at h
      simp only [List.length_append,List.length_cons,List.length_nil] at h8
      repeat' (first|refine vz ?_|(conv=>whnf); first|with_reducible first|refine Sp.mk ?_ ?_|refine br_d (fun _=>?_) fun _=>?_|refine vM (fun _=>?_) fun _=>?_)
      refine ⟨_,?_,h⟩
      repeat' ((conv=>whnf); first|with_reducible exact True.intro|exact vW|with_reducible refine And.intro ?_ ?_)
      all_goals exact Chk.mk (ext_pushV (enc:=plC) (d:=default) (l:=l) (x:=⟨p,bs,rs⟩) rfl)
   ·rename_i hp
    replace hp:¬ placeOk ⟨mp,mb,mr⟩:=hp
    replace eD:doD ⟨⟨p,bs,rs⟩,l⟩ ⟨k,a,b,w⟩=none:=eD.trans (if_neg fun q=>hp q.1)
    rw [afterD_none hO eD,canD_none eD] at h
    refine ⟨_,?_,h⟩
    repeat' ((conv=>whnf); first|with_reducible exact True.intro|exact vW|with_reducible refine And.intro ?_ ?_)
    all_goals exact Chk.mk ⟨rfl,fun i _=>by dsimp only; rw [Nat.zero_add]; rfl⟩
 ·replace h:K (.tup [enDe (afterD ⟨⟨p,bs,rs⟩,l⟩ ⟨k,a,b,w⟩),.bool (canD ⟨⟨p,bs,rs⟩,l⟩ ⟨k,a,b,w⟩)]):=h
  rw [show afterD ⟨⟨p,bs,rs⟩,l⟩ ⟨k,a,b,w⟩=default from if_neg hO,show canD ⟨⟨p,bs,rs⟩,l⟩ ⟨k,a,b,w⟩=false by unfold canD; rw [decide_eq_false hO]; rfl] at h
  repeat' (first|refine vz ?_|(conv=>whnf); first|with_reducible first|refine Sp.mk ?_ ?_|refine br_d (fun _=>?_) fun _=>?_|refine vM (fun _=>?_) fun _=>?_)
  refine ⟨_,?_,h⟩
  repeat' ((conv=>whnf); first|with_reducible exact True.intro|exact vW|with_reducible refine And.intro ?_ ?_)
end Go.Proofs.YtapeebjjljohdaaGreatDoor.Vc
end
