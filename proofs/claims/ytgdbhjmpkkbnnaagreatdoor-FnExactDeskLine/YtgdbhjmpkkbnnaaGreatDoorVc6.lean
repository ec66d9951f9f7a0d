/- Part UC: numbers and cuts, by both sides. -/
import Derived.Test.YtgdbhjmpkkbnnaaGreatDoorVc5
section
namespace Go.Proofs.YtgdbhjmpkkbnnaaGreatDoor.Vc
open Go.Proofs
set_option maxRecDepth 10000
set_option maxHeartbeats 4000000
def isNum (s:ByteArray):Bool:=decide (valL 0 s.data.toList<1000000∧s=num (valL 0 s.data.toList:Nat))
theorem isNum_num {n:Nat} (h:n<1000000):isNum (num (n:Int))=true:=by
 unfold isNum
 rw [num_val]
 exact decide_eq_true ⟨h,rfl⟩
theorem isNum_of {s:ByteArray} (h:isNum s=true):∃ n:Nat,n<1000000∧s=num (n:Int):=⟨_,(of_decide_eq_true h).1,(of_decide_eq_true h).2⟩
theorem isNum_no {s:ByteArray} (h:¬ ∃ n:Nat,n<1000000∧s=num (n:Int)):isNum s=false:=by
 cases e:isNum s with
 |false=>rfl
 |true=>exact absurd (isNum_of e) h
def C213:List AV→(AV→Prop)→Prop:=con (X:=ByteArray) (fun s=>[.str s]) (fun s=>s.size≤281474976710656) fun s K=>∀ v:Int,i64r v→(∀ n:Nat,n<1000000→s=num n→v=n)→K (.tup [.int .i64 v,.bool (isNum s)])
theorem F213:FF 125 C213:=by
 refine fitX [(147,C101),(146,C212)] (by simp only [List.mem_cons,List.not_mem_nil,or_false]; rintro _ (rfl|rfl) <;> first|exact F101|exact F212) [] (by simp) Tryz.f125 ⟨rfl,by decide +kernel,by decide +kernel⟩ (fun _ _ _ hk h v q1 q2=>hk _ (h v q1 q2)) ?_
 rintro s K hs h
 refine ⟨Nat.le_of_ble_eq_true rfl,?_⟩
 repeat' (first|refine vz ?_|(conv=>whnf); first|with_reducible first|refine Sp.mk ?_ ?_|refine br_d (fun _=>?_) fun _=>?_|refine vM (fun _=>?_) fun _=>?_)
 refine ⟨s,?_,⟨hs⟩,?_⟩
 ·exact wq
 intro v e ⟨v1,v2⟩ he hn
 have hK:=h v ⟨v1,v2⟩ fun n q1 q2=>(hn n q1 q2).1
 rcases he with rfl|rfl
 ·repeat' (first|refine vz ?_|(conv=>whnf); first|with_reducible first|refine Sp.mk ?_ ?_|refine br_d (fun _=>?_) fun _=>?_|refine vM (fun _=>?_) fun _=>?_)
  ·rename_i g1 g2
   refine ⟨v,?_,⟨g1,by omega⟩,?_⟩
   ·exact wq
   have e0:isNum s=decide (num v=s):=by
    by_cases e:num v=s
    ·rw [decide_eq_true e,← e]
     obtain ⟨n,rfl⟩:∃ n:Nat,v=n:=⟨v.toNat,by omega⟩
     exact isNum_num (by omega)
    ·rw [decide_eq_false e]
     exact isNum_no fun ⟨n,q1,q2⟩=>e (by rw [(hn n q1 q2).1,q2])
   rw [e0] at hK
   repeat' (first|refine vz ?_|(conv=>whnf); first|with_reducible first|refine Sp.mk ?_ ?_|refine br_d (fun _=>?_) fun _=>?_|refine vM (fun _=>?_) fun _=>?_)
   exact hK
  all_goals
   have e0:isNum s=false:=isNum_no fun ⟨n,q1,q2⟩=>by have:=(hn n q1 q2).1; omega
   rw [e0] at hK
   exact hK
 ·have e0:isNum s=false:=isNum_no fun ⟨n,q1,q2⟩=>by cases (hn n q1 q2).2
  rw [e0] at hK
  repeat' (first|refine vz ?_|(conv=>whnf); first|with_reducible first|refine Sp.mk ?_ ?_|refine br_d (fun _=>?_) fun _=>?_|refine vM (fun _=>?_) fun _=>?_)
  exact hK
/-! ### The reference's cut -/
theorem ext_list {s:ByteArray} {j i:Nat}:(s.extract j i).data.toList=(s.data.toList.drop j).take (i-j):=by
 rw [ByteArray.data_extract,Array.toList_extract]
theorem drop_bt {s:ByteArray} {i:Nat} (h:i<s.size):∃ b:UInt8,bt s i=(b.toNat:Int)∧s.data.toList.drop i=b :: s.data.toList.drop (i+1):=by
 have h':i<s.data.toList.length:=by rw [Array.length_toList]; exact h
 refine ⟨s.data.toList[i],?_,List.drop_eq_getElem_cons h'⟩
 unfold bt
 rw [Array.getD_eq_getD_getElem?,Array.getElem?_eq_getElem (by exact h)]
 rfl
structure cutI (s:ByteArray) (c:UInt8) (P:List ByteArray) (i j:Nat):Prop where
 ji:j≤i
 le:i≤s.size
 len:P.length≤j
 cut:cutL c s.data.toList=P.map (·.data.toList) ++ headApp (s.extract j i).data.toList (cutL c (s.data.toList.drop i))
theorem cutI_0 (s:ByteArray) (c:UInt8):cutI s c [] 0 0:=⟨Nat.le_refl _,Nat.zero_le _,Nat.le_refl _,by
 rw [ext_list]
 exact (headApp_nil (cutL_ne c _)).symm⟩
theorem ext_snocL {s:ByteArray} {j i:Nat} {b:UInt8} (hji:j≤i) (h:s.data.toList.drop i=b :: s.data.toList.drop (i+1)):(s.extract j (i+1)).data.toList=(s.extract j i).data.toList ++ [b]:=by
 have e:(s.data.toList.drop j).drop (i-j)=b :: s.data.toList.drop (i+1):=by rw [List.drop_drop,show j+(i-j)=i by omega,h]
 rw [ext_list,ext_list,show i+1-j=(i-j)+1 by omega,List.take_add,e]
 rfl
theorem cutI_hit {s:ByteArray} {c:UInt8} {P:List ByteArray} {i j:Nat} (h:cutI s c P i j) (hi:i<s.size) (hb:bt s i=(c.toNat:Int)):cutI s c (P ++ [s.extract j i]) (i+1) (i+1):=by
 obtain ⟨b,e1,e2⟩:=drop_bt hi
 obtain rfl:b=c:=UInt8.toNat_inj.1 (by omega)
 refine ⟨Nat.le_refl _,hi,by rw [List.length_append]; have:=h.len; have:=h.ji; show _+1≤_; omega,?_⟩
 have e3:(s.extract (i+1) (i+1)).data.toList=[]:=by rw [ext_list,Nat.sub_self]; rfl
 rw [h.cut,e2,e3,headApp_nil (cutL_ne _ _),List.map_append,List.append_assoc]
 show _ ++ headApp _ (if b=b then _ else _)=_
 rw [if_pos rfl]
 show _ ++ ((_ ++ []) :: _)=_
 rw [List.append_nil]
 rfl
theorem cutI_miss {s:ByteArray} {c:UInt8} {P:List ByteArray} {i j:Nat} (h:cutI s c P i j) (hi:i<s.size) (hb:¬ bt s i=(c.toNat:Int)):cutI s c P (i+1) j:=by
 obtain ⟨b,e1,e2⟩:=drop_bt hi
 refine ⟨Nat.le_succ_of_le h.ji,hi,h.len,?_⟩
 rw [h.cut,e2,ext_snocL h.ji e2,← headApp_app]
 show _ ++ headApp _ (if b=c then _ else _)=_
 rw [if_neg fun e=>hb (by rw [e1,e])]
theorem cutI_end {s:ByteArray} {c:UInt8} {P:List ByteArray} {j:Nat} (h:cutI s c P s.size j):cutB s c=P ++ [s.extract j s.size]:=by
 unfold cutB
 rw [h.cut,show s.data.toList.drop s.size=[] from List.drop_of_length_le (by rw [Array.length_toList]; exact Nat.le_refl _)]
 show (_ ++ [_ ++ []]).map _=_
 rw [List.append_nil,List.map_append,List.map_map]
 exact congrArg (· ++ _) (List.map_id _)
theorem ext_pushW {α:Type} {enc:α→List AV} {d:α} {l:List α} {x:α} {g:Nat→List AV} (hg:g 0=enc x):l.length+1=(l ++ [x]).length∧∀ i,i<l.length+1→appF l.length (fun i=>enc (l.getD i d)) g (0+i)=enc ((l ++ [x]).getD i d):=by
 have h:=ext_push (enc:=enc) (d:=d) (l:=l) (x:=x) (g:=g) hg
 refine ⟨h.1.symm,fun i hi=>?_⟩
 rw [Nat.zero_add]
 exact (h.2 i (by rw [h.1]; exact hi)).symm
def C215:List AV→(AV→Prop)→Prop:=con (X:=ByteArray × UInt8) (fun x=>[.str x.1,.int .u8 (x.2.toNat:Int)]) (fun x=>x.1.size<4294967281) fun x K=>K (slS (cutB x.1 x.2))
theorem F215:FF 42 C215:=by
 refine fitXE [] (by simp) [] (by simp) Tryz.f42 ⟨rfl,by decide +kernel,by decide +kernel⟩ (by intro x K K2 hk h; (try dsimp only at h ⊢); intros; apply hk; first|exact h|(apply h <;> assumption)) ?_
 rintro ⟨s,c⟩ K hs h
 refine ⟨Nat.le_of_ble_eq_true rfl,?_⟩
 dsimp only at h hs ⊢
 have hc:=c.toNat_lt
 repeat' (first|refine vz ?_|(conv=>whnf); first|with_reducible first|refine Sp.mk ?_ ?_|refine br_d (fun _=>?_) fun _=>?_|refine vM (fun _=>?_) fun _=>?_)
 refine Lp.mk ⟨List ByteArray × Nat × Nat,fun x=>[(0,.str s),(1,.int .u8 (c.toNat:Int)),(5,.row 0 1 0 x.1.length),(6,.int .i64 x.2.2),(7,.int .i64 x.2.1)],fun x=>[.row 1 x.1.length fun k=>encS (x.1.getD k ⟨#[]⟩)],fun x=>cutI s c x.1 x.2.1 x.2.2,fun x=>s.size-x.2.1,⟨([],0,0),cutI_0 s c,⟨⟨[none],[],rfl,rfl,?_,?_⟩⟩⟩,?_⟩
 ·exact wq
 ·exact wq
 rintro ⟨P,i,j⟩ hI
 have i1:=hI.ji
 have i2:=hI.le
 have i3:=hI.len
 dsimp only at i1 i2 i3 hI ⊢
 repeat' (first|refine vz ?_|(conv=>whnf); first|with_reducible first|refine Sp.mk ?_ ?_|refine br_d (fun _=>?_) fun _=>?_|refine vM (fun _=>?_) fun _=>?_)
 ·rename_i q1 q2
  refine ⟨(P ++ [s.extract j i],i+1,i+1),cutI_hit hI (by omega) q2,by dsimp only; omega,⟨⟨[some 2],[],rfl,rfl,?_,?_⟩⟩⟩
  ·repeat' ((conv=>whnf); first|with_reducible exact True.intro|exact vW|with_reducible refine And.intro ?_ ?_)
   all_goals exact Chk.mk ⟨rfl,by rw [List.length_append]; rfl⟩
  ·repeat' ((conv=>whnf); first|with_reducible exact True.intro|exact vW|with_reducible refine And.intro ?_ ?_)
   all_goals exact Chk.mk (ext_push rfl)
 ·rename_i q1 q2
  refine ⟨(P,i+1,j),cutI_miss hI (by omega) q2,by dsimp only; omega,⟨⟨[some 0],[],rfl,rfl,?_,?_⟩⟩⟩
  ·exact wq
  ·exact wq
 ·rename_i q1
  obtain rfl:i=s.size:=by omega
  rw [cutI_end hI] at h
  refine ⟨_,?_,h⟩
  repeat' ((conv=>whnf); first|with_reducible exact True.intro|exact vW|with_reducible refine And.intro ?_ ?_)
  all_goals exact Chk.mk (ext_pushW rfl)
/-! ### The reference's digits -/
theorem take_bt {s:ByteArray} {i:Nat} (h:i<s.size):∃ b:UInt8,bt s i=(b.toNat:Int)∧b∈s.data.toList∧s.data.toList.take (i+1)=s.data.toList.take i ++ [b]:=by
 obtain ⟨b,e1,e2⟩:=drop_bt h
 have h':i<s.data.toList.length:=by rw [Array.length_toList]; exact h
 refine ⟨b,e1,?_,?_⟩
 ·have:b∈s.data.toList.drop i:=by rw [e2]; exact List.mem_cons_self
  exact List.mem_of_mem_drop this
 ·rw [List.take_add,e2]; rfl
theorem num_len {n:Nat} (h:n<1000000):1≤(num (n:Int)).size∧(num (n:Int)).size≤6:=by
 have e:(num (n:Int)).size=(Lib.decDigits n).length:=by rw [← num_list]; exact (Array.length_toList).symm
 rw [e]
 exact ⟨dec_pos n,dec_len6 h⟩
theorem num_0 {n:Nat} (h:1<(num (n:Int)).size):¬ bt (num (n:Int)) 0=48:=by
 obtain ⟨b,e1,e2⟩:=drop_bt (s:=num (n:Int)) (i:=0) (by omega)
 rw [List.drop_zero,num_list] at e2
 intro e
 have hb:b=48:=UInt8.toNat_inj.1 (by have:(48:UInt8).toNat=48:=rfl; omega)
 have h1:1≤n:=by
  rcases Nat.eq_zero_or_pos n with rfl|h1
  ·have:(num ((0:Nat):Int)).size=1:=by
    rw [show (num ((0:Nat):Int)).size=(Lib.decDigits 0).length by rw [← num_list]; exact (Array.length_toList).symm,Lib.decDigits]
    rfl
   omega
  ·exact h1
 exact dec_head n h1 (by rw [e2,hb]; rfl)
theorem val_step {s:ByteArray} {i:Nat} {b:UInt8} (h:s.data.toList.take (i+1)=s.data.toList.take i ++ [b]):valL 0 (s.data.toList.take (i+1))=valL 0 (s.data.toList.take i)*10+(b.toNat-48):=by rw [h,valL_app]; rfl
def C216:List AV→(AV→Prop)→Prop:=con (X:=ByteArray) (fun s=>[.str s]) (fun s=>s.size<9223372036854775808) fun s K=>∀ v:Int,i64r v→(∀ n:Nat,n<1000000→s=num n→v=n)→K (.int .i64 v)
theorem F216:FF 43 C216:=by
 refine fitX [(74,C35)] (by simp only [List.mem_cons,List.not_mem_nil,or_false]; rintro _ rfl <;> first|exact F35) [] (by simp) Tryz.f43 ⟨rfl,by decide +kernel,by decide +kernel⟩ (fun _ _ _ hk h v q1 q2=>hk _ (h v q1 q2)) ?_
 rintro s K hs h
 refine ⟨Nat.le_of_ble_eq_true rfl,?_⟩
 repeat' (first|refine vz ?_|(conv=>whnf); first|with_reducible first|refine Sp.mk ?_ ?_|refine br_d (fun _=>?_) fun _=>?_|refine vM (fun _=>?_) fun _=>?_)
 refine ⟨((s.size:Int),1,6),?_,⟨trivial⟩,?_⟩
 ·exact wq
 dsimp only
 have hno:(∀ n:Nat,n<1000000→s=num n→False)→K (.int .i64 (-1)):=fun hn=>h (-1) ⟨by decide,by decide⟩ fun n q1 q2=>(hn n q1 q2).elim
 apply later
 ·intro key
  repeat' (first|refine vz ?_|(conv=>whnf); first|with_reducible first|refine Sp.mk ?_ ?_|refine br_d (fun _=>?_) fun _=>?_|refine vM (fun _=>?_) fun _=>?_)
  ·rename_i q1 q2 q3
   refine hno fun n hn e=>?_
   subst e
   exact num_0 (by omega) q3
  ·rename_i q1 q2 q3
   replace q1:1≤s.size∧s.size≤6:=by omega
   clear q2 q3
   refine Lp.mk ⟨Nat,fun i=>[(0,.str s),(3,.int .i64 (valL 0 (s.data.toList.take i):Nat)),(4,.int .i64 i)],fun _=>[],fun i=>i≤s.size∧valL 0 (s.data.toList.take i)+1≤10 ^ i,fun i=>s.size-i,⟨0,⟨Nat.zero_le _,Nat.le_refl _⟩,⟨⟨[],[],rfl,rfl,?_,?_⟩⟩⟩,?_⟩
   ·exact wq
   ·exact wq
   revert q1
   exact key.t
  ·rename_i q1 q2
   replace q1:1≤s.size∧s.size≤6:=by omega
   clear q2
   refine Lp.mk ⟨Nat,fun i=>[(0,.str s),(3,.int .i64 (valL 0 (s.data.toList.take i):Nat)),(4,.int .i64 i)],fun _=>[],fun i=>i≤s.size∧valL 0 (s.data.toList.take i)+1≤10 ^ i,fun i=>s.size-i,⟨0,⟨Nat.zero_le _,Nat.le_refl _⟩,⟨⟨[],[],rfl,rfl,?_,?_⟩⟩⟩,?_⟩
   ·exact wq
   ·exact wq
   revert q1
   exact key.t
  ·rename_i q1
   refine hno fun n hn e=>q1 ?_
   subst e
   have:=num_len hn
   omega
 rintro ⟨h1,h6⟩ i ⟨i1,i2⟩
 have ip:10 ^ i≤10 ^ 6:=Nat.pow_le_pow_right (by decide) (by omega)
 have ip':(10:Nat) ^ 6=1000000:=by decide
 dsimp only
 by_cases hi:i<s.size
 ·obtain ⟨b,e1,e2,e3⟩:=take_bt hi
  have hv:=val_step e3
  have hb:=b.toNat_lt
  have e1':bt s (i:Int).toNat=(b.toNat:Int):=e1
  have hbad:¬ digB b→K (.int .i64 (-1)):=fun hd=>hno fun n hn e=>hd (by subst e; rw [num_list] at e2; exact dec_dig n b e2)
  repeat' (first|refine vz ?_|(conv=>whnf); first|with_reducible first|refine Sp.mk ?_ ?_|refine br_d (fun _=>?_) fun _=>?_|refine vM (fun _=>?_) fun _=>?_)
  ·exact hbad fun q=>by unfold digB at q; omega
  ·exact hbad fun q=>by unfold digB at q; omega
  ·refine ⟨i+1,⟨by omega,by rw [hv,Nat.pow_succ]; omega⟩,by omega,⟨⟨[],[],rfl,rfl,?_,?_⟩⟩⟩
   ·exact wq
   ·exact wq
 ·obtain rfl:i=s.size:=by omega
  have ht:s.data.toList.take s.size=s.data.toList:=List.take_of_length_le (by rw [Array.length_toList]; exact Nat.le_refl _)
  rw [ht] at i2 ⊢
  repeat' (first|refine vz ?_|(conv=>whnf); first|with_reducible first|refine Sp.mk ?_ ?_|refine br_d (fun _=>?_) fun _=>?_|refine vM (fun _=>?_) fun _=>?_)
  exact h _ ⟨by omega,by omega⟩ fun n hn e=>by rw [e,num_val]
end Go.Proofs.YtgdbhjmpkkbnnaaGreatDoor.Vc
end
section
/- Part UD: what a place's text is cut into. -/
namespace Go.Proofs.YtgdbhjmpkkbnnaaGreatDoor.Vc
open Go.Proofs
set_option maxRecDepth 10000
set_option maxHeartbeats 4000000
def visB (s:ByteArray):Prop:=∀ b∈s.data.toList,33≤b.toNat
theorem vis_app {a b:ByteArray} (ha:visB a) (hb:visB b):visB (a ++ b):=fun x hx=>by
 rw [ByteArray.data_append,Array.toList_append] at hx
 exact (List.mem_append.1 hx).elim (ha x) (hb x)
theorem vis_num {n:Int} (h:0≤n):visB (num n):=fun b hb=>by
 obtain ⟨k,rfl⟩:∃ k:Nat,n=k:=⟨n.toNat,by omega⟩
 rw [num_list] at hb
 have:=dec_dig k b hb
 unfold digB at this
 omega
theorem vis_one {k:UInt8} (h:33≤k.toNat):visB ⟨#[k]⟩:=fun b hb=>by
 rw [List.mem_singleton.1 hb]; exact h
theorem vis_wrap {s:ByteArray} {b:Bool} (h:visB s):visB (wrapT s b):=by
 unfold wrapT
 split
 ·exact vis_app (vis_app (vis_one (by decide)) h) (vis_one (by decide))
 ·exact h
theorem vis_letter {a:Int} (h0:0≤a) (h:a<8):visB (letter a):=vis_one (by
 rw [UInt8.toNat_ofNat',Nat.mod_eq_of_lt (by omega)]
 omega)
theorem vis_join {k:Int} {a b:Pt} (ha:visB a.s) (hb:visB b.s):visB (join2 k a b).s:=by
 unfold join2
 split
 ·exact vis_app (vis_app ha (vis_one (by decide))) (vis_wrap hb)
 ·exact vis_app (vis_app (vis_wrap ha) (vis_one (by decide))) (vis_wrap hb)
def okM (m:Mark):Prop:=m.kind=0→(0≤m.at_∧m.at_<8)∧0≤m.need
theorem vis_step {m:Mark} {st:List Pt} (hm:okM m) (h:∀ p∈st,visB p.s):∀ p∈stepT m st,visB p.s:=by
 unfold stepT
 split
 ·rename_i e
  have:=hm e
  intro p hp
  rcases List.mem_cons.1 hp with rfl|hp
  ·exact vis_app (vis_letter this.1.1 this.1.2) (vis_num this.2)
  ·exact h p hp
 ·match st,h with
  |[],h=>exact h
  |[a],h=>exact h
  |b :: a :: r,h =>
   intro p hp
   rcases List.mem_cons.1 hp with rfl|hp
   ·exact vis_join (h a (List.mem_cons_of_mem _ List.mem_cons_self)) (h b List.mem_cons_self)
   ·exact h p (List.mem_cons_of_mem _ (List.mem_cons_of_mem _ hp))
theorem vis_run:∀ {t:List Mark} {st:List Pt},(∀ m∈t,okM m)→(∀ p∈st,visB p.s)→∀ p∈runT t st,visB p.s
 |[],_,_,h=>h
 |m :: t,_,hm,h=>vis_run (t:=t) (fun x hx=>hm x (List.mem_cons_of_mem _ hx)) (vis_step (hm m List.mem_cons_self) h)
theorem walk_marks {bs:List Int} (hl:bs.length≤8):∀ {t:List Mark} {k j:Nat},walkP bs t k=some j→∀ m∈t,okM m
 |[],_,_,_,m,hm=>by cases hm
 |x :: t,k,j,h,m,hm=>by
  simp only [walkP] at h
  cases e:stepP bs x k with
  |none=>rw [e] at h; cases h
  |some i =>
   rw [e] at h
   rcases List.mem_cons.1 hm with rfl|hm
   ·intro hk
    unfold stepP at e
    split at e
    ·rename_i g
     exact ⟨⟨g.2.1,by omega⟩,by omega⟩
    ·rename_i g
     split at e
     ·rename_i g2
      omega
     ·cases e
   ·exact walk_marks hl (t:=t) (k:=i) (j:=j) h m hm
theorem vis_term {h:House} {t:List Mark} (ht:termOk h t):visB (textT t):=by
 have h1:=vis_run (t:=t) (st:=[]) (walk_marks (Nat.le_trans ht.1.2.1 (by decide)) ht.2.2) (fun _ q=>by cases q)
 unfold textT partT
 cases e:runT t [] with
 |nil=>intro b hb; cases hb
 |cons p r=>rw [e] at h1; exact h1 p List.mem_cons_self
theorem vis_rule {h:House} {r:ByteArray} (e:bad h r=false):visB r:=by
 obtain ⟨t,ht⟩:=bad_term e
 obtain ⟨_,g2,g3⟩:=(rdT_iff (by decide)).1 ht
 rw [← g3]
 exact vis_term g2
theorem vis_joinB {s:ByteArray} (hs:visB s):∀ {l:List ByteArray},(∀ x∈l,visB x)→visB (joinB l s):=by
 intro l h b hb
 have hb':b∈Lib.join (l.map (·.data.toList)) s.data.toList:=hb
 have key:∀ (l:List (List UInt8)),b∈Lib.join l s.data.toList→b∈s.data.toList∨∃ x∈l,b∈x:=by
  intro l
  induction l with
  |nil=>intro q; cases q
  |cons x l ih =>
   cases l with
   |nil=>rw [Lib.join_one]; exact fun q=>.inr ⟨x,List.mem_cons_self,q⟩
   |cons y r =>
    have e:Lib.join (x :: y :: r) s.data.toList=x ++ (s.data.toList ++ Lib.join (y :: r) s.data.toList):=by
     unfold Lib.join List.intercalate
     rw [List.intersperse_cons_cons,List.flatten_cons,List.flatten_cons]
    rw [e]
    intro q
    rcases List.mem_append.1 q with q|q
    ·exact .inr ⟨x,List.mem_cons_self,q⟩
    ·rcases List.mem_append.1 q with q|q
     ·exact .inl q
     ·exact (ih q).imp id fun ⟨z,hz,hq⟩=>⟨z,List.mem_cons_of_mem _ hz,hq⟩
 rcases key _ hb' with q|⟨x,hx,q⟩
 ·exact hs b q
 ·obtain ⟨y,hy,rfl⟩:=List.mem_map.1 hx
  exact h y hy b q
theorem vis_no {s:ByteArray} (h:visB s) {c:UInt8} (hc:c.toNat<33):c ∉ s.data.toList:=fun q=>by have:=h c q; omega
theorem num_nocomma {n:Int} (h:0≤n):(44:UInt8) ∉ (num n).data.toList:=fun q=>by
 obtain ⟨k,rfl⟩:∃ k:Nat,n=k:=⟨n.toNat,by omega⟩
 rw [num_list] at q
 have:=dec_dig k _ q
 unfold digB at this
 have h44:(44:UInt8).toNat=44:=rfl
 omega
theorem cut_listT {l:List Int} (h:smallL l) (hne:l≠[]):cutB (listT l) 44=l.map num:=joinB_cut (c:=44) (fun e=>hne (List.map_eq_nil_iff.1 e)) fun x hx=>by
 obtain ⟨n,hn,rfl⟩:=List.mem_map.1 hx
 exact num_nocomma (h.2 n hn).1
theorem cut_plT {x:Place} (h:placeOk x):cutB (plT x) 32=num x.p :: listT x.bs :: x.rules:=joinB_cut (c:=32) (List.cons_ne_nil _ _) fun y hy=>by
 obtain ⟨g1,g2,g3,g4⟩:=placeOk_small h
 refine vis_no ?_ (by decide)
 rcases List.mem_cons.1 hy with rfl|hy
 ·exact vis_num g2
 ·rcases List.mem_cons.1 hy with rfl|hy
  ·exact vis_joinB (vis_one (by decide)) fun z hz=>by
    obtain ⟨n,hn,rfl⟩:=List.mem_map.1 hz
    exact vis_num (g1.2 n hn).1
  ·exact vis_rule (h.2.2 y hy)
theorem num_inj {m:Nat} {n:Int} (h0:0≤n) (h:num (m:Int)=num n):(m:Int)=n:=by
 obtain ⟨k,rfl⟩:∃ k:Nat,n=k:=⟨n.toNat,by omega⟩
 have:=num_val m
 rw [h,num_val] at this
 rw [this]
theorem plT_inj {x y:Place} (hx:placeOk x) (hy:placeOk y) (h:plT x=plT y):x=y:=by
 have e:=cut_plT hx
 rw [h,cut_plT hy] at e
 obtain ⟨x1,x2,x3⟩:=x
 obtain ⟨y1,y2,y3⟩:=y
 have sx:=placeOk_small hx
 have sy:=placeOk_small hy
 injection e with e1 e2
 injection e2 with e2 e3
 have nx:=placeOk_bs hx
 have ny:=placeOk_bs hy
 dsimp only at e1 e2 e3 sx sy nx ny
 have h1:x1=y1:=by
  obtain ⟨k,rfl⟩:∃ k:Nat,y1=k:=⟨y1.toNat,by omega⟩
  exact (num_inj sx.2.1 e1).symm
 have e4:=cut_listT sx.1 nx
 rw [← e2,cut_listT sy.1 ny] at e4
 have h2:x2=y2:=by
  have key:∀ (a b:List Int),(∀ n∈a,0≤n)→(∀ n∈b,0≤n)→a.map num=b.map num→a=b:=by
   intro a
   induction a with
   |nil=>intro b _ _ e; cases b with|nil=>rfl|cons=>cases e
   |cons n a ih =>
    intro b ha hb e
    cases b with
    |nil=>cases e
    |cons m b =>
     rw [List.map_cons,List.map_cons] at e
     injection e with e1 e2
     obtain ⟨k,rfl⟩:∃ k:Nat,n=k:=⟨n.toNat,by have:=ha n List.mem_cons_self; omega⟩
     rw [num_inj (hb m List.mem_cons_self) e1,ih b (fun z hz=>ha z (List.mem_cons_of_mem _ hz)) (fun z hz=>hb z (List.mem_cons_of_mem _ hz)) e2]
  exact (key _ _ (fun n hn=>(sy.1.2 n hn).1) (fun n hn=>(sx.1.2 n hn).1) e4).symm
 rw [h1,h2,e3]
end Go.Proofs.YtgdbhjmpkkbnnaaGreatDoor.Vc
end
section
/- Part DC: the reference text of a deed. -/
namespace Go.Proofs.YtgdbhjmpkkbnnaaGreatDoor.Vc
open Go.Proofs
theorem containsAny_eq (chars:List UInt8):∀ l:List UInt8,Lib.containsAny l chars=l.any chars.contains
 |[]=>rfl
 |b :: l=>by
  have ih':0≤Lib.indexAny l chars ↔ l.any chars.contains=true:=by rw [← containsAny_eq chars l]; simp [Lib.containsAny]
  have hg:=Lib.indexAny_ge chars l
  rw [Bool.eq_iff_iff,List.any_cons,Bool.or_eq_true,← ih']
  show decide (0≤Lib.indexAny (b :: l) chars)=true ↔ _
  rw [decide_eq_true_eq,Lib.indexAny]
  split
  ·rename_i e; exact ⟨fun _=>Or.inl e,fun _=>Int.le_refl 0⟩
  ·rename_i e
   simp only [beq_iff_eq]
   have e':¬ chars.contains b=true:=e
   split
   ·rename_i e1; rw [e1]; exact ⟨fun h=>absurd h (by decide),fun h=>h.elim (fun h=>absurd h e') id⟩
   ·constructor
    ·intro _; right; omega
    ·rintro (h|h)
     ·exact absurd h e'
     ·omega
theorem bt_at (w:ByteArray) (i:Nat) (h:i<w.size):∃ b:UInt8,w.data.toList[i]?=some b∧bt w i=b.toNat:=by
 have h':i<w.data.size:=h
 refine ⟨w.data[i],by simp,?_⟩
 simp [bt,Array.getElem?_eq_getElem h']
def okTo (w:ByteArray):Nat→Bool
 |0=>decide ((w.size:Int) > 0)
 |i+1=>okTo w i && (decide (¬ bt w i=32) && decide (¬ bt w i=10))
theorem okTo_iff (w:ByteArray):∀ i,okTo w i=true ↔ 0<w.size∧∀ j,j<i→bt w j≠32∧bt w j≠10
 |0=>by simp [okTo]
 |i+1=>by
  simp only [okTo,Bool.and_eq_true,decide_eq_true_eq,okTo_iff w i]
  constructor
  ·rintro ⟨⟨h1,h2⟩,h3,h4⟩
   refine ⟨h1,fun j hj=>?_⟩
   by_cases e:j=i
   ·subst e; exact ⟨h3,h4⟩
   ·exact h2 j (by omega)
  ·rintro ⟨h1,h2⟩
   exact ⟨⟨h1,fun j hj=>h2 j (by omega)⟩,h2 i (by omega)⟩
theorem size_zero {w:ByteArray}:w=⟨#[]⟩ ↔ ¬ 0<w.size:=by
 constructor
 ·rintro rfl; decide
 ·intro h
  have h1:w.data.size=0:=by have:¬ 0<w.data.size:=h; omega
  have:w.data=#[]:=Array.eq_empty_of_size_eq_zero h1
  cases w
  simp_all
theorem okTo_plain (w:ByteArray):okTo w w.size=plainW w:=by
 rw [Bool.eq_iff_iff,okTo_iff]
 unfold plainW spc
 rw [containsAny_eq]
 simp only [Bool.and_eq_true,decide_eq_true_eq,Bool.not_eq_true',List.any_eq_false,size_zero,Classical.not_not]
 refine and_congr_right fun h0=>⟨fun h b hb=>?_,fun h j hj=>?_⟩
 ·obtain ⟨i,hi,rfl⟩:=List.getElem_of_mem hb
  have hi':i<w.size:=by simpa using hi
  obtain ⟨c,h1,h2⟩:=bt_at w i hi'
  rw [List.getElem?_eq_getElem hi] at h1
  have hc:=Option.some.inj h1
  have:=h i hi'
  rw [h2,← hc] at this
  intro hs
  have:w.data.toList[i]=32∨w.data.toList[i]=10:=by simpa [sn] using hs
  rcases this with e|e <;> simp [e] at this
  all_goals simp_all
 ·obtain ⟨c,h1,h2⟩:=bt_at w j hj
  have:=h c (List.mem_of_getElem? h1)
  rw [h2]
  constructor
  ·intro e
   have:c=32:=by apply UInt8.toNat_inj.1; show c.toNat=32; omega
   subst this
   exact absurd rfl this
  ·intro e
   have:c=10:=by apply UInt8.toNat_inj.1; show c.toNat=10; omega
   subst this
   exact absurd rfl this
def C105:List AV→(AV→Prop)→Prop:=con (X:=Dd) (fun d=>[ded d]) (fun d=>d.words.size≤1048576) fun d K=>K (.str (deedT d))
set_option maxRecDepth 10000 in
set_option maxHeartbeats 4000000 in
theorem F105:FF 71 C105:=by
 refine fitE [(74,C35),(72,C106)] (by simp only [List.mem_cons,List.not_mem_nil,or_false]; rintro _ (rfl|rfl) <;> first|exact F35|exact F106) Tryz.f71 ⟨rfl,by decide +kernel,by decide +kernel⟩ (fun _ _ _ hk h=>hk _ h) ?_
 rintro ⟨k,a,b,w⟩ K h1 h
 refine ⟨Nat.le_of_ble_eq_true rfl,?_⟩
 dsimp only [ded,encD] at h1 h ⊢
 repeat' (first|refine vz ?_|(conv=>whnf); first|with_reducible first|refine Sp.mk ?_ ?_|refine br_d (fun _=>?_) fun _=>?_|refine vM (fun _=>?_) fun _=>?_)
 refine Lp.mk ⟨Nat,fun i=>[(1,.ptr 0 0),(3,.bool (okTo w i)),(4,.int .i64 i)],fun _=>[.box (encD ⟨k,a,b,w⟩)],fun i=>i≤w.size,fun i=>w.size-i,⟨0,Nat.zero_le _,⟨⟨[some 0],[],rfl,rfl,?_,?_⟩⟩⟩,?_⟩
 ·exact wq
 ·exact wq
 intro i i1
 dsimp only [encD]
 cases hp:okTo w i
 ·have hq:okTo w (i+1)=false:=by simp only [okTo,hp,Bool.false_and]
  repeat' (first|refine vz ?_|(conv=>whnf); first|with_reducible first|refine Sp.mk ?_ ?_|refine br_d (fun _=>?_) fun _=>?_|refine vM (fun _=>?_) fun _=>?_)
  ·refine ⟨i+1,by omega,by omega,⟨⟨[some 0],[],rfl,rfl,?_,?_⟩⟩⟩
   ·repeat' ((conv=>whnf); first|with_reducible exact True.intro|exact vW|with_reducible refine And.intro ?_ ?_)
    all_goals first|exact Chk.mk hq|exact Chk.mk hq.symm|exact Chk.mk (by omega)
   ·exact wq
  ·obtain rfl:i=w.size:=by omega
   rw [okTo_plain] at hp
   refine ⟨(a,0,99),?_,⟨trivial⟩,?_⟩
   ·exact wq
   dsimp only
   repeat' (first|refine vz ?_|(conv=>whnf); first|with_reducible first|refine Sp.mk ?_ ?_|refine br_d (fun _=>?_) fun _=>?_|refine vM (fun _=>?_) fun _=>?_)
   ·rename_i r1
    refine ⟨(b,0,99),?_,⟨trivial⟩,?_⟩
    ·exact wq
    dsimp only
    repeat' (first|refine vz ?_|(conv=>whnf); first|with_reducible first|refine Sp.mk ?_ ?_|refine br_d (fun _=>?_) fun _=>?_|refine vM (fun _=>?_) fun _=>?_)
    ·have na':=num_size (n:=a) (by omega) (by omega)
     refine ⟨a,?_,⟨by omega,by omega⟩,?_⟩
     ·exact wq
     repeat' ((conv=>whnf); first|refine ⟨Chk.mk (by have z1:=sz1; have z2:=sz2; have z3:=sz3; have z4:=sz4; have z5:=sz5; (repeat rw [ByteArray.size_append]); omega),?_⟩|refine vA ?_|with_reducible first|refine v8 ?_|refine Ch.l ?_|refine Sp.mk ?_ ?_|refine vS ?_|refine vR ?_|refine vB ?_|refine br_nt ?_|refine br_tt ?_|refine br_ff ?_|refine vP ?_|refine vQ ?_|refine vT ?_|refine vF ?_|refine br_and ?_|refine br_or ?_|refine br_d (fun _=>?_) fun _=>?_|refine vM (fun _=>?_) fun _=>?_)
     ((unfold deedT at h; repeat' (split at h)) <;> first|exact h|(exfalso; simp_all; done)|(exfalso; simp_all; omega))
    all_goals try ((unfold deedT at h; repeat' (split at h)) <;> first|exact h|(exfalso; simp_all; done)|(exfalso; simp_all; omega))
    ·have na':=num_size (n:=a) (by omega) (by omega)
     have nb':=num_size (n:=b) (by omega) (by omega)
     refine Dr.mk ⟨(.rd 0 (.rd 1 (.rd 5 (.rd 6 (.ef 2 (.rd 3 (.rd 4 (.ef 7 (.rd 8 (.rd 9 .dn)) .no))) .no))))),by decide +kernel,?_⟩
     repeat' ((conv=>whnf); first|refine ⟨Chk.mk (by have z1:=sz1; have z2:=sz2; have z3:=sz3; have z4:=sz4; have z5:=sz5; (repeat rw [ByteArray.size_append]); omega),?_⟩|refine vA ?_|with_reducible first|refine v8 ?_|refine Ch.l ?_|refine Sp.mk ?_ ?_|refine vS ?_|refine vR ?_|refine vB ?_|refine br_nt ?_|refine br_tt ?_|refine br_ff ?_|refine vP ?_|refine vQ ?_|refine vT ?_|refine vF ?_|refine br_and ?_|refine br_or ?_|refine br_d (fun _=>?_) fun _=>?_|refine vM (fun _=>?_) fun _=>?_)
     refine ⟨a,?_,⟨by omega,by omega⟩,?_⟩
     ·exact wq
     repeat' ((conv=>whnf); first|refine ⟨Chk.mk (by have z1:=sz1; have z2:=sz2; have z3:=sz3; have z4:=sz4; have z5:=sz5; (repeat rw [ByteArray.size_append]); omega),?_⟩|refine vA ?_|with_reducible first|refine v8 ?_|refine Ch.l ?_|refine Sp.mk ?_ ?_|refine vS ?_|refine vR ?_|refine vB ?_|refine br_nt ?_|refine br_tt ?_|refine br_ff ?_|refine vP ?_|refine vQ ?_|refine vT ?_|refine vF ?_|refine br_and ?_|refine br_or ?_|refine br_d (fun _=>?_) fun _=>?_|refine vM (fun _=>?_) fun _=>?_)
     refine ⟨b,?_,⟨by omega,by omega⟩,?_⟩
     ·exact wq
     repeat' ((conv=>whnf); first|refine ⟨Chk.mk (by have z1:=sz1; have z2:=sz2; have z3:=sz3; have z4:=sz4; have z5:=sz5; (repeat rw [ByteArray.size_append]); omega),?_⟩|refine vA ?_|with_reducible first|refine v8 ?_|refine Ch.l ?_|refine Sp.mk ?_ ?_|refine vS ?_|refine vR ?_|refine vB ?_|refine br_nt ?_|refine br_tt ?_|refine br_ff ?_|refine vP ?_|refine vQ ?_|refine vT ?_|refine vF ?_|refine br_and ?_|refine br_or ?_|refine br_d (fun _=>?_) fun _=>?_|refine vM (fun _=>?_) fun _=>?_)
     ((unfold deedT at h; repeat' (split at h)) <;> first|exact h|(exfalso; simp_all; done)|(exfalso; simp_all; omega))
    ·rename_i r2
     replace r2:b<0∨99<b:=by omega
     unfold deedT at h; dsimp only at h; rw [if_pos (by omega)] at h; exact h
   ·rename_i r1
    replace r1:a<0∨99<a:=by omega
    unfold deedT at h; dsimp only at h; rw [if_pos (by omega)] at h; exact h
 ·repeat' (first|refine vz ?_|(conv=>whnf); first|with_reducible first|refine Sp.mk ?_ ?_|refine br_d (fun _=>?_) fun _=>?_|refine vM (fun _=>?_) fun _=>?_)
  ·refine ⟨i+1,by omega,by omega,⟨⟨[some 0],[],rfl,rfl,?_,?_⟩⟩⟩
   ·repeat' ((conv=>whnf); first|with_reducible exact True.intro|exact vW|with_reducible refine And.intro ?_ ?_)
    all_goals first|exact Chk.mk (by omega)|exact Chk.mk (by simp_all [okTo])
   ·exact wq
  ·refine ⟨i+1,by omega,by omega,⟨⟨[some 0],[],rfl,rfl,?_,?_⟩⟩⟩
   ·repeat' ((conv=>whnf); first|with_reducible exact True.intro|exact vW|with_reducible refine And.intro ?_ ?_)
    all_goals first|exact Chk.mk (by omega)|exact Chk.mk (by simp_all [okTo])
   ·exact wq
  ·obtain rfl:i=w.size:=by omega
   rw [okTo_plain] at hp
   refine ⟨(a,0,99),?_,⟨trivial⟩,?_⟩
   ·exact wq
   dsimp only
   repeat' (first|refine vz ?_|(conv=>whnf); first|with_reducible first|refine Sp.mk ?_ ?_|refine br_d (fun _=>?_) fun _=>?_|refine vM (fun _=>?_) fun _=>?_)
   ·rename_i r1
    refine ⟨(b,0,99),?_,⟨trivial⟩,?_⟩
    ·exact wq
    dsimp only
    repeat' (first|refine vz ?_|(conv=>whnf); first|with_reducible first|refine Sp.mk ?_ ?_|refine br_d (fun _=>?_) fun _=>?_|refine vM (fun _=>?_) fun _=>?_)
    ·have na':=num_size (n:=a) (by omega) (by omega)
     refine ⟨a,?_,⟨by omega,by omega⟩,?_⟩
     ·exact wq
     repeat' ((conv=>whnf); first|refine ⟨Chk.mk (by have z1:=sz1; have z2:=sz2; have z3:=sz3; have z4:=sz4; have z5:=sz5; (repeat rw [ByteArray.size_append]); omega),?_⟩|refine vA ?_|with_reducible first|refine v8 ?_|refine Ch.l ?_|refine Sp.mk ?_ ?_|refine vS ?_|refine vR ?_|refine vB ?_|refine br_nt ?_|refine br_tt ?_|refine br_ff ?_|refine vP ?_|refine vQ ?_|refine vT ?_|refine vF ?_|refine br_and ?_|refine br_or ?_|refine br_d (fun _=>?_) fun _=>?_|refine vM (fun _=>?_) fun _=>?_)
     ((unfold deedT at h; repeat' (split at h)) <;> first|exact h|(exfalso; simp_all; done)|(exfalso; simp_all; omega))
    all_goals try ((unfold deedT at h; repeat' (split at h)) <;> first|exact h|(exfalso; simp_all; done)|(exfalso; simp_all; omega))
    ·repeat' ((conv=>whnf); first|refine ⟨Chk.mk (by have z1:=sz1; have z2:=sz2; have z3:=sz3; have z4:=sz4; have z5:=sz5; (repeat rw [ByteArray.size_append]); omega),?_⟩|refine vA ?_|with_reducible first|refine v8 ?_|refine Ch.l ?_|refine Sp.mk ?_ ?_|refine vS ?_|refine vR ?_|refine vB ?_|refine br_nt ?_|refine br_tt ?_|refine br_ff ?_|refine vP ?_|refine vQ ?_|refine vT ?_|refine vF ?_|refine br_and ?_|refine br_or ?_|refine br_d (fun _=>?_) fun _=>?_|refine vM (fun _=>?_) fun _=>?_)
     ((unfold deedT at h; repeat' (split at h)) <;> first|exact h|(exfalso; simp_all; done)|(exfalso; simp_all; omega))
    ·have na':=num_size (n:=a) (by omega) (by omega)
     have nb':=num_size (n:=b) (by omega) (by omega)
     refine Dr.mk ⟨(.rd 0 (.rd 1 (.rd 5 (.rd 6 (.rd 10 (.rd 11 (.ef 2 (.rd 3 (.rd 4 (.ef 7 (.rd 8 (.rd 9 (.rd 12 (.rd 13 .dn)))) .no))) .no))))))),by decide +kernel,?_⟩
     repeat' ((conv=>whnf); first|refine ⟨Chk.mk (by have z1:=sz1; have z2:=sz2; have z3:=sz3; have z4:=sz4; have z5:=sz5; (repeat rw [ByteArray.size_append]); omega),?_⟩|refine vA ?_|with_reducible first|refine v8 ?_|refine Ch.l ?_|refine Sp.mk ?_ ?_|refine vS ?_|refine vR ?_|refine vB ?_|refine br_nt ?_|refine br_tt ?_|refine br_ff ?_|refine vP ?_|refine vQ ?_|refine vT ?_|refine vF ?_|refine br_and ?_|refine br_or ?_|refine br_d (fun _=>?_) fun _=>?_|refine vM (fun _=>?_) fun _=>?_)
     refine ⟨a,?_,⟨by omega,by omega⟩,?_⟩
     ·exact wq
     repeat' ((conv=>whnf); first|refine ⟨Chk.mk (by have z1:=sz1; have z2:=sz2; have z3:=sz3; have z4:=sz4; have z5:=sz5; (repeat rw [ByteArray.size_append]); omega),?_⟩|refine vA ?_|with_reducible first|refine v8 ?_|refine Ch.l ?_|refine Sp.mk ?_ ?_|refine vS ?_|refine vR ?_|refine vB ?_|refine br_nt ?_|refine br_tt ?_|refine br_ff ?_|refine vP ?_|refine vQ ?_|refine vT ?_|refine vF ?_|refine br_and ?_|refine br_or ?_|refine br_d (fun _=>?_) fun _=>?_|refine vM (fun _=>?_) fun _=>?_)
     refine ⟨b,?_,⟨by omega,by omega⟩,?_⟩
     ·exact wq
     repeat' ((conv=>whnf); first|refine ⟨Chk.mk (by have z1:=sz1; have z2:=sz2; have z3:=sz3; have z4:=sz4; have z5:=sz5; (repeat rw [ByteArray.size_append]); omega),?_⟩|refine vA ?_|with_reducible first|refine v8 ?_|refine Ch.l ?_|refine Sp.mk ?_ ?_|refine vS ?_|refine vR ?_|refine vB ?_|refine br_nt ?_|refine br_tt ?_|refine br_ff ?_|refine vP ?_|refine vQ ?_|refine vT ?_|refine vF ?_|refine br_and ?_|refine br_or ?_|refine br_d (fun _=>?_) fun _=>?_|refine vM (fun _=>?_) fun _=>?_)
     ((unfold deedT at h; repeat' (split at h)) <;> first|exact h|(exfalso; simp_all; done)|(exfalso; simp_all; omega))
    ·have na':=num_size (n:=a) (by omega) (by omega)
     have nb':=num_size (n:=b) (by omega) (by omega)
     refine Dr.mk ⟨(.rd 0 (.rd 1 (.rd 5 (.rd 6 (.ef 2 (.rd 3 (.rd 4 (.ef 7 (.rd 8 (.rd 9 .dn)) .no))) .no))))),by decide +kernel,?_⟩
     repeat' ((conv=>whnf); first|refine ⟨Chk.mk (by have z1:=sz1; have z2:=sz2; have z3:=sz3; have z4:=sz4; have z5:=sz5; (repeat rw [ByteArray.size_append]); omega),?_⟩|refine vA ?_|with_reducible first|refine v8 ?_|refine Ch.l ?_|refine Sp.mk ?_ ?_|refine vS ?_|refine vR ?_|refine vB ?_|refine br_nt ?_|refine br_tt ?_|refine br_ff ?_|refine vP ?_|refine vQ ?_|refine vT ?_|refine vF ?_|refine br_and ?_|refine br_or ?_|refine br_d (fun _=>?_) fun _=>?_|refine vM (fun _=>?_) fun _=>?_)
     refine ⟨a,?_,⟨by omega,by omega⟩,?_⟩
     ·exact wq
     repeat' ((conv=>whnf); first|refine ⟨Chk.mk (by have z1:=sz1; have z2:=sz2; have z3:=sz3; have z4:=sz4; have z5:=sz5; (repeat rw [ByteArray.size_append]); omega),?_⟩|refine vA ?_|with_reducible first|refine v8 ?_|refine Ch.l ?_|refine Sp.mk ?_ ?_|refine vS ?_|refine vR ?_|refine vB ?_|refine br_nt ?_|refine br_tt ?_|refine br_ff ?_|refine vP ?_|refine vQ ?_|refine vT ?_|refine vF ?_|refine br_and ?_|refine br_or ?_|refine br_d (fun _=>?_) fun _=>?_|refine vM (fun _=>?_) fun _=>?_)
     refine ⟨b,?_,⟨by omega,by omega⟩,?_⟩
     ·exact wq
     repeat' ((conv=>whnf); first|refine ⟨Chk.mk (by have z1:=sz1; have z2:=sz2; have z3:=sz3; have z4:=sz4; have z5:=sz5; (repeat rw [ByteArray.size_append]); omega),?_⟩|refine vA ?_|with_reducible first|refine v8 ?_|refine Ch.l ?_|refine Sp.mk ?_ ?_|refine vS ?_|refine vR ?_|refine vB ?_|refine br_nt ?_|refine br_tt ?_|refine br_ff ?_|refine vP ?_|refine vQ ?_|refine vT ?_|refine vF ?_|refine br_and ?_|refine br_or ?_|refine br_d (fun _=>?_) fun _=>?_|refine vM (fun _=>?_) fun _=>?_)
     ((unfold deedT at h; repeat' (split at h)) <;> first|exact h|(exfalso; simp_all; done)|(exfalso; simp_all; omega))
    ·rename_i r2
     replace r2:b<0∨99<b:=by omega
     unfold deedT at h; dsimp only at h; rw [if_pos (by omega)] at h; exact h
   ·rename_i r1
    replace r1:a<0∨99<a:=by omega
    unfold deedT at h; dsimp only at h; rw [if_pos (by omega)] at h; exact h
end Go.Proofs.YtgdbhjmpkkbnnaaGreatDoor.Vc
end
section
/- Part DD: the laws on the texts of deeds and journals. -/
namespace Go.Proofs.YtgdbhjmpkkbnnaaGreatDoor.Vc
open Go.Proofs
set_option maxRecDepth 10000
set_option maxHeartbeats 4000000
end Go.Proofs.YtgdbhjmpkkbnnaaGreatDoor.Vc
end
section
/- Part DE: the law on the texts of journals. -/
namespace Go.Proofs.YtgdbhjmpkkbnnaaGreatDoor.Vc
open Go.Proofs
set_option maxRecDepth 10000
set_option maxHeartbeats 4000000
abbrev slD (l:List Dd):AV:=.sl 4 l.length fun i=>encD (l.getD i default)
def wsum (l:List Dd):Nat→Nat
 |0=>0
 |i+1=>wsum l i+(l.getD i default).words.size
end Go.Proofs.YtgdbhjmpkkbnnaaGreatDoor.Vc
end
section
/- Part DF: the texts of journals. -/
namespace Go.Proofs.YtgdbhjmpkkbnnaaGreatDoor.Vc
open Go.Proofs
set_option maxRecDepth 10000
set_option maxHeartbeats 4000000
def jOk (l:List Dd):Prop:=l.length+wsum l l.length≤1048576
end Go.Proofs.YtgdbhjmpkkbnnaaGreatDoor.Vc
end
section
/- Part XA: deeds and journals that are read: the plain law. -/
namespace Go.Proofs.YtgdbhjmpkkbnnaaGreatDoor.Vc
open Go.Proofs
set_option maxRecDepth 10000
set_option maxHeartbeats 4000000
/-! ### Deeds that have a text -/
def kindB (k:Int):ByteArray:=if k=0 then ⟨#[98,111,100,121]⟩ else if k=1 then ⟨#[114,117,108,101]⟩ else if k=2 then ⟨#[97,109,101,110,100]⟩ else if k=3 then ⟨#[100,114,111,112]⟩ else ⟨#[98,97,99,107]⟩
def numsOf (x:Dd):List Int:=if x.kind=0 then [x.a] else if x.kind=2∨x.kind=3 then [x.a,x.b] else []
def wordsOf (x:Dd):List ByteArray:=if x.words=⟨#[]⟩ then [] else [x.words]
structure okDd (x:Dd):Prop where
 a:0≤x.a∧x.a≤99
 b:0≤x.b∧x.b≤99
 k:(x.kind=0∧x.b=0∧x.words=⟨#[]⟩)∨(x.kind=1∧x.a=0∧x.b=0∧plainW x.words=true)∨(x.kind=2∧plainW x.words=true)∨(x.kind=3∧x.words=⟨#[]⟩)∨(x.kind=4∧x.a=0∧x.b=0∧x.words=⟨#[]⟩)
theorem plainW_no {w:ByteArray} (h:plainW w=true):w≠⟨#[]⟩∧(32:UInt8) ∉ w.data.toList∧(10:UInt8) ∉ w.data.toList:=by
 unfold plainW spc at h
 rw [containsAny_eq] at h
 simp only [Bool.and_eq_true,decide_eq_true_eq,Bool.not_eq_true',List.any_eq_false] at h
 exact ⟨h.1,fun q=>h.2 32 q rfl,fun q=>h.2 10 q rfl⟩
theorem joinB_three (x y z sep:ByteArray):joinB [x,y,z] sep=x ++ sep ++ y ++ sep ++ z:=by
 have:=joinB_app (l:=[x,y]) (x:=z) (sep:=sep) (by simp)
 rwa [joinB_two] at this
theorem joinB_four (x y z u sep:ByteArray):joinB [x,y,z,u] sep=x ++ sep ++ y ++ sep ++ z ++ sep ++ u:=by
 have:=joinB_app (l:=[x,y,z]) (x:=u) (sep:=sep) (by simp)
 rwa [joinB_three] at this
theorem deedT_ok {x:Dd} (h:okDd x):deedT x=joinB (kindB x.kind :: ((numsOf x).map num ++ wordsOf x)) space:=by
 obtain ⟨k,a,b,w⟩:=x
 obtain ⟨ha,hb,hk⟩:=h
 dsimp only at ha hb hk
 unfold deedT
 dsimp only
 rw [if_neg (by omega)]
 rcases hk with ⟨rfl,rfl,rfl⟩|⟨rfl,rfl,rfl,hw⟩|⟨rfl,hw⟩|⟨rfl,rfl⟩|⟨rfl,rfl,rfl,rfl⟩
 ·rw [if_pos ⟨rfl,rfl,rfl⟩]
  show (⟨#[98,111,100,121,32]⟩ ++ num a:ByteArray)=joinB [kindB 0,num a] space
  rw [joinB_two,show kindB 0 ++ space=⟨#[98,111,100,121,32]⟩ from rfl]
 ·have:=(plainW_no hw).1
  rw [if_neg (by omega),if_pos ⟨rfl,rfl,rfl,hw⟩]
  unfold wordsOf
  rw [if_neg this]
  show (⟨#[114,117,108,101,32]⟩ ++ w:ByteArray)=joinB [kindB 1,w] space
  rw [joinB_two,show kindB 1 ++ space=⟨#[114,117,108,101,32]⟩ from rfl]
 ·have:=(plainW_no hw).1
  rw [if_neg (by omega),if_neg (by omega),if_pos ⟨rfl,hw⟩]
  unfold wordsOf
  rw [if_neg this]
  show (⟨#[97,109,101,110,100,32]⟩ ++ num a ++ ⟨#[32]⟩ ++ num b ++ ⟨#[32]⟩ ++ w:ByteArray)=joinB [kindB 2,num a,num b,w] space
  rw [joinB_four,show kindB 2 ++ space=⟨#[97,109,101,110,100,32]⟩ from rfl]
  rfl
 ·rw [if_neg (by omega),if_neg (by omega),if_neg (by omega),if_pos ⟨rfl,rfl⟩]
  show (⟨#[100,114,111,112,32]⟩ ++ num a ++ ⟨#[32]⟩ ++ num b:ByteArray)=joinB [kindB 3,num a,num b] space
  rw [joinB_three,show kindB 3 ++ space=⟨#[100,114,111,112,32]⟩ from rfl]
  rfl
 ·rw [if_neg (by omega),if_neg (by omega),if_neg (by omega),if_neg (by omega),if_pos ⟨rfl,rfl,rfl,rfl⟩]
  rfl
theorem deedT_no {x:Dd} (h:¬ okDd x):deedT x=⟨#[]⟩:=by
 unfold deedT
 split
 ·rfl
 ·rename_i hr
  have ha:0≤x.a∧x.a≤99:=by omega
  have hb:0≤x.b∧x.b≤99:=by omega
  rw [if_neg fun q=>h ⟨ha,hb,.inl q⟩,if_neg fun q=>h ⟨ha,hb,.inr (.inl q)⟩,if_neg fun q=>h ⟨ha,hb,.inr (.inr (.inl q))⟩,if_neg fun q=>h ⟨ha,hb,.inr (.inr (.inr (.inl q)))⟩,if_neg fun q=>h ⟨ha,hb,.inr (.inr (.inr (.inr q)))⟩]
theorem kindB_no (k:Int):(32:UInt8) ∉ (kindB k).data.toList∧(10:UInt8) ∉ (kindB k).data.toList∧(kindB k).size≠0:=by
 unfold kindB
 (repeat' split) <;> decide
theorem num_no32 {n:Int} (h:0≤n):(32:UInt8) ∉ (num n).data.toList∧(10:UInt8) ∉ (num n).data.toList:=⟨vis_no (vis_num h) (by decide),vis_no (vis_num h) (by decide)⟩
theorem numsOf_mem {x:Dd} (h:okDd x):∀ n∈numsOf x,0≤n∧n≤99:=by
 unfold numsOf
 intro n hn
 split at hn
 ·rw [List.mem_singleton.1 hn]; exact h.a
 ·split at hn
  ·rcases List.mem_cons.1 hn with rfl|hn
   ·exact h.a
   ·rw [List.mem_singleton.1 hn]; exact h.b
  ·cases hn
theorem okDd_plain {x:Dd} (h:okDd x):x.words=⟨#[]⟩∨plainW x.words=true:=by
 rcases h.k with q|q|q|q|q
 ·exact .inl q.2.2
 ·exact .inr q.2.2.2
 ·exact .inr q.2
 ·exact .inl q.2
 ·exact .inl q.2.2.2
theorem parts_no {x:Dd} (h:okDd x):∀ y∈kindB x.kind :: ((numsOf x).map num ++ wordsOf x),(32:UInt8) ∉ y.data.toList∧(10:UInt8) ∉ y.data.toList:=by
 intro y hy
 rcases List.mem_cons.1 hy with rfl|hy
 ·exact ⟨(kindB_no _).1,(kindB_no _).2.1⟩
 ·rcases List.mem_append.1 hy with hy|hy
  ·obtain ⟨n,hn,rfl⟩:=List.mem_map.1 hy
   exact num_no32 (numsOf_mem h n hn).1
  ·unfold wordsOf at hy
   split at hy
   ·cases hy
   ·rename_i hw
    rw [List.mem_singleton.1 hy]
    have:=plainW_no ((okDd_plain h).resolve_left hw)
    exact this.2
theorem cut_deed {x:Dd} (h:okDd x):cutB (deedT x) 32=kindB x.kind :: ((numsOf x).map num ++ wordsOf x):=by
 rw [deedT_ok h]
 exact joinB_cut (c:=32) (List.cons_ne_nil _ _) fun y hy=>(parts_no h y hy).1
theorem mem_join {b:UInt8} {s:List UInt8}:∀ (l:List (List UInt8)),b∈Lib.join l s→b∈s∨∃ x∈l,b∈x:=by
 intro l
 induction l with
 |nil=>intro q; cases q
 |cons x l ih =>
  cases l with
  |nil=>rw [Lib.join_one]; exact fun q=>.inr ⟨x,List.mem_cons_self,q⟩
  |cons y r =>
   have e:Lib.join (x :: y :: r) s=x ++ (s ++ Lib.join (y :: r) s):=by
    unfold Lib.join List.intercalate
    rw [List.intersperse_cons_cons,List.flatten_cons,List.flatten_cons]
   rw [e]
   intro q
   rcases List.mem_append.1 q with q|q
   ·exact .inr ⟨x,List.mem_cons_self,q⟩
   ·rcases List.mem_append.1 q with q|q
    ·exact .inl q
    ·exact (ih q).imp id fun ⟨z,hz,hq⟩=>⟨z,List.mem_cons_of_mem _ hz,hq⟩
theorem deed_nl (x:Dd):(10:UInt8) ∉ (deedT x).data.toList:=by
 by_cases h:okDd x
 ·rw [deedT_ok h]
  intro q
  have q':(10:UInt8)∈Lib.join ((kindB x.kind :: ((numsOf x).map num ++ wordsOf x)).map (·.data.toList)) space.data.toList:=q
  rcases mem_join _ q' with q|⟨y,hy,q⟩
  ·have:(10:UInt8) ∉ space.data.toList:=by decide
   exact this q
  ·obtain ⟨z,hz,rfl⟩:=List.mem_map.1 hy
   exact (parts_no h z hz).2 q
 ·rw [deedT_no h]
  intro q
  cases q
theorem empty_cut:cutB ⟨#[]⟩ 32=[⟨#[]⟩]:=rfl
theorem okDd_ne {x:Dd} (h:okDd x):deedT x≠⟨#[]⟩:=fun e=>by
 have:=cut_deed h
 rw [e,empty_cut] at this
 injection this with e1 _
 have:=(kindB_no x.kind).2.2
 rw [← e1] at this
 exact this rfl
theorem ok_of_ne {x:Dd} (h:deedT x≠⟨#[]⟩):okDd x:=Classical.byContradiction fun q=>h (deedT_no q)
theorem kindB_inj {j k:Int} (hj:0≤j∧j≤4) (hk:0≤k∧k≤4) (h:kindB j=kindB k):j=k:=by
 rcases (show j=0∨j=1∨j=2∨j=3∨j=4 by omega) with rfl|rfl|rfl|rfl|rfl <;> rcases (show k=0∨k=1∨k=2∨k=3∨k=4 by omega) with rfl|rfl|rfl|rfl|rfl <;> first|rfl|exact absurd h (by decide)
theorem okDd_kind {x:Dd} (h:okDd x):0≤x.kind∧x.kind≤4:=by
 rcases h.k with q|q|q|q|q <;> omega
theorem num_inj' {m n:Int} (hm:0≤m) (hn:0≤n) (h:num m=num n):m=n:=by
 obtain ⟨k,rfl⟩:∃ k:Nat,m=k:=⟨m.toNat,by omega⟩
 exact num_inj hn h
theorem deed_inj {x y:Dd} (hx:okDd x) (hy:okDd y) (h:deedT x=deedT y):x=y:=by
 have e:=cut_deed hx
 rw [h,cut_deed hy] at e
 injection e with e1 e2
 have e1:=kindB_inj (okDd_kind hy) (okDd_kind hx) e1
 have kx:=hx.k
 have ky:=hy.k
 have ax:=hx.a
 have ay:=hy.a
 have bx:=hx.b
 have by':=hy.b
 obtain ⟨k,a,b,w⟩:=x
 obtain ⟨k',a',b',w'⟩:=y
 dsimp only at e1 kx ky ax ay bx by' e2
 subst e1
 have pw:∀ {w:ByteArray},plainW w=true→wordsOf ⟨k',a,b,w⟩=[w]:=fun h=>if_neg (plainW_no h).1
 have pw':∀ {w:ByteArray},plainW w=true→wordsOf ⟨k',a',b',w⟩=[w]:=fun h=>if_neg (plainW_no h).1
 rcases kx with ⟨rfl,q1,q2⟩|⟨rfl,q1,q2,q3⟩|⟨rfl,q1⟩|⟨rfl,q1⟩|⟨rfl,q1,q2,q3⟩
 ·rcases ky with ⟨_,r1,r2⟩|⟨r,_⟩|⟨r,_⟩|⟨r,_⟩|⟨r,_⟩ <;> first|exact absurd r (by decide)|skip
  subst q1 q2 r1 r2
  have e3:[num a']=[num a]:=e2
  injection e3 with e3 _
  rw [num_inj' ax.1 ay.1 e3.symm]
 ·rcases ky with ⟨r,_⟩|⟨_,r1,r2,r3⟩|⟨r,_⟩|⟨r,_⟩|⟨r,_⟩ <;> first|exact absurd r (by decide)|skip
  subst q1 q2 r1 r2
  rw [pw q3,pw' r3] at e2
  have e3:[w']=[w]:=e2
  injection e3 with e3 _
  rw [e3]
 ·rcases ky with ⟨r,_⟩|⟨r,_⟩|⟨_,r1⟩|⟨r,_⟩|⟨r,_⟩ <;> first|exact absurd r (by decide)|skip
  rw [pw q1,pw' r1] at e2
  have e3:[num a',num b',w']=[num a,num b,w]:=e2
  injection e3 with e3 e4
  injection e4 with e4 e5
  injection e5 with e5 _
  rw [num_inj' ax.1 ay.1 e3.symm,num_inj' bx.1 by'.1 e4.symm,e5]
 ·rcases ky with ⟨r,_⟩|⟨r,_⟩|⟨r,_⟩|⟨_,r1⟩|⟨r,_⟩ <;> first|exact absurd r (by decide)|skip
  subst q1 r1
  have e3:[num a',num b']=[num a,num b]:=e2
  injection e3 with e3 e4
  injection e4 with e4 _
  rw [num_inj' ax.1 ay.1 e3.symm,num_inj' bx.1 by'.1 e4.symm]
 ·rcases ky with ⟨r,_⟩|⟨r,_⟩|⟨r,_⟩|⟨r,_⟩|⟨_,r1,r2,r3⟩ <;> first|exact absurd r (by decide)|skip
  subst q1 q2 q3 r1 r2 r3
  rfl
/-! ### What a text tells -/
def isDd (s:ByteArray) (x:Dd):Prop:=okDd x∧deedT x=s
theorem isDd_one {s:ByteArray} {x y:Dd} (h:isDd s x) (g:isDd s y):x=y:=deed_inj h.1 g.1 (h.2.trans g.2.symm)
theorem isDd_cut {s:ByteArray} {x:Dd} (h:isDd s x):cutB s 32=kindB x.kind :: ((numsOf x).map num ++ wordsOf x):=by rw [← h.2]; exact cut_deed h.1
theorem isDd_of {s:ByteArray} {x:Dd} (h:deedT x=s) (hne:s≠⟨#[]⟩):isDd s x:=⟨ok_of_ne (by rw [h]; exact hne),h⟩
theorem isDd_ne {s:ByteArray} {x:Dd} (h:isDd s x):s≠⟨#[]⟩:=by rw [← h.2]; exact okDd_ne h.1
def ddPost (s:ByteArray) (K:AV→Prop):Prop:=(∀ x,isDd s x→K (.tup [ded x,.bool true]))∧((¬ ∃ x,isDd s x)→K (.tup [ded default,.bool false]))
theorem ddPost.mono {s:ByteArray} {K K2:AV→Prop} (hk:∀ r,K r→K2 r) (h:ddPost s K):ddPost s K2:=⟨fun x q=>hk _ (h.1 x q),fun q=>hk _ (h.2 q)⟩
/-! ### Journals -/
def lineL (x:Dd):List UInt8:=(deedT x).data.toList ++ [10]
def jl:List Dd→List UInt8
 |[]=>[]
 |x :: l=>lineL x ++ jl l
theorem jl_app (l m:List Dd):jl (l ++ m)=jl l ++ jl m:=by
 induction l with
 |nil=>rfl
 |cons x l ih=>show lineL x ++ jl (l ++ m)=lineL x ++ jl l ++ jl m; rw [ih,List.append_assoc]
theorem jl_one (x:Dd):jl [x]=lineL x:=List.append_nil _
structure isJr (s:List UInt8) (l:List Dd) (r:List UInt8):Prop where
 ok:∀ x∈l,okDd x
 eq:s=jl l ++ r
 stop:∀ x t,okDd x→r≠lineL x ++ t
theorem first_inj {c:UInt8}:∀ {p q t u:List UInt8},c ∉ p→c ∉ q→p ++ c :: t=q ++ c :: u→p=q∧t=u
 |[],[],t,u,_,_,h=>⟨rfl,by injection h⟩
 |[],b :: q,t,u,_,hq,h=>by
  injection h with h1 _
  exact absurd (h1 ▸ List.mem_cons_self) hq
 |a :: p,[],t,u,hp,_,h=>by
  injection h with h1 _
  exact absurd (h1 ▸ List.mem_cons_self) hp
 |a :: p,b :: q,t,u,hp,hq,h=>by
  injection h with h1 h2
  obtain ⟨e1,e2⟩:=first_inj (fun k=>hp (List.mem_cons_of_mem _ k)) (fun k=>hq (List.mem_cons_of_mem _ k)) h2
  exact ⟨by rw [h1,e1],e2⟩
theorem bytes_inj {s t:ByteArray} (h:s.data.toList=t.data.toList):s=t:=ByteArray.ext (Array.toList_inj.1 h)
theorem line_inj {x y:Dd} {t u:List UInt8} (hx:okDd x) (hy:okDd y) (h:lineL x ++ t=lineL y ++ u):x=y∧t=u:=by
 unfold lineL at h
 rw [List.append_assoc,List.append_assoc] at h
 obtain ⟨e1,e2⟩:=first_inj (deed_nl x) (deed_nl y) h
 exact ⟨deed_inj hx hy (bytes_inj e1),e2⟩
theorem isJr.cons {s:List UInt8} {l:List Dd} {r:List UInt8} {x:Dd} (hx:okDd x) (h:isJr s l r):isJr (lineL x ++ s) (x :: l) r :=
 ⟨fun y hy=>(List.mem_cons.1 hy).elim (fun e=>e ▸ hx) (h.ok y),by rw [h.eq]; exact (List.append_assoc ..).symm,h.stop⟩
theorem isJr.tail {s:List UInt8} {l:List Dd} {r:List UInt8} {x:Dd} (h:isJr (lineL x ++ s) (x :: l) r):isJr s l r :=
 ⟨fun y hy=>h.ok y (List.mem_cons_of_mem _ hy),by
  have:=h.eq
  rw [show jl (x :: l)=lineL x ++ jl l from rfl,List.append_assoc] at this
  exact List.append_cancel_left this,h.stop⟩
theorem isJr_one:∀ {l m:List Dd} {s r t:List UInt8},isJr s l r→isJr s m t→l=m∧r=t
 |[],[],s,r,t,h,g=>⟨rfl,by have:=h.eq; rw [g.eq] at this; exact this.symm⟩
 |[],y :: m,s,r,t,h,g=>by
  have e:r=lineL y ++ (jl m ++ t):=by
   have:=h.eq
   rw [g.eq] at this
   exact this.symm.trans (List.append_assoc ..)
  exact absurd e (h.stop y _ (g.ok y List.mem_cons_self))
 |x :: l,[],s,r,t,h,g=>by
  have e:t=lineL x ++ (jl l ++ r):=by
   have:=g.eq
   rw [h.eq] at this
   exact this.symm.trans (List.append_assoc ..)
  exact absurd e (g.stop x _ (h.ok x List.mem_cons_self))
 |x :: l,y :: m,s,r,t,h,g=>by
  have e:lineL x ++ (jl l ++ r)=lineL y ++ (jl m ++ t):=by
   have:=h.eq
   rw [g.eq] at this
   exact (List.append_assoc ..).symm.trans (this.symm.trans (List.append_assoc ..))
  obtain ⟨rfl,e2⟩:=line_inj (h.ok x List.mem_cons_self) (g.ok y List.mem_cons_self) e
  have h':isJr (jl l ++ r) l r:=⟨fun z hz=>h.ok z (List.mem_cons_of_mem _ hz),rfl,h.stop⟩
  have g':isJr (jl l ++ r) m t:=⟨fun z hz=>g.ok z (List.mem_cons_of_mem _ hz),e2,g.stop⟩
  obtain ⟨rfl,rfl⟩:=isJr_one h' g'
  exact ⟨rfl,rfl⟩
theorem isJr_ex:∀ (n:Nat) (s:List UInt8),s.length≤n→∃ l r,isJr s l r
 |n,s,hn=>by
  by_cases h:∃ x t,okDd x∧s=lineL x ++ t
  ·obtain ⟨x,t,hx,rfl⟩:=h
   cases n with
   |zero=>simp [lineL] at hn
   |succ n =>
    obtain ⟨l,r,g⟩:=isJr_ex n t (by simp [lineL] at hn; omega)
    exact ⟨x :: l,r,g.cons hx⟩
  ·exact ⟨[],s,fun _ q=>(by cases q),rfl,fun x t hx e=>h ⟨x,t,hx,e⟩⟩
theorem jr_has (s:ByteArray):∃ l r,isJr s.data.toList l r:=isJr_ex _ _ (Nat.le_refl _)
noncomputable def jr (s:ByteArray):List Dd:=Classical.choose (jr_has s)
noncomputable def jn (s:ByteArray):Nat:=(jl (jr s)).length
theorem jr_spec (s:ByteArray):∃ r,isJr s.data.toList (jr s) r:=Classical.choose_spec (jr_has s)
theorem jr_of {s:ByteArray} {l:List Dd} {r:List UInt8} (h:isJr s.data.toList l r):jr s=l∧jn s=(jl l).length:=by
 obtain ⟨t,ht⟩:=jr_spec s
 obtain ⟨e,_⟩:=isJr_one ht h
 exact ⟨e,by unfold jn; rw [e]⟩
theorem jn_le (s:ByteArray):jn s≤s.size:=by
 obtain ⟨t,ht⟩:=jr_spec s
 have:=congrArg List.length ht.eq
 rw [List.length_append,Array.length_toList] at this
 show (jl (jr s)).length≤s.data.size
 omega
theorem line_len (x:Dd):(lineL x).length=(deedT x).size+1:=by
 unfold lineL
 rw [List.length_append,Array.length_toList]
 rfl
theorem jl_len (l:List Dd):l.length≤(jl l).length:=by
 induction l with
 |nil=>exact Nat.le_refl _
 |cons x l ih =>
  show _≤(lineL x ++ jl l).length
  rw [List.length_append,line_len]
  simp only [List.length_cons]
  omega
theorem jr_len (s:ByteArray):(jr s).length≤s.size:=Nat.le_trans (jl_len _) (jn_le s)
theorem words_le {x:Dd} (h:okDd x):x.words.size≤(deedT x).size:=by
 rcases okDd_plain h with e|e
 ·rw [e]; exact Nat.zero_le _
 ·have hw:=(plainW_no e).1
  rcases h.k with q|q|q|q|q
  ·exact absurd q.2.2 hw
  ·unfold deedT
   rw [if_neg (by have:=h.a; have:=h.b; omega),if_neg (by omega),if_pos q,ByteArray.size_append]
   omega
  ·unfold deedT
   rw [if_neg (by have:=h.a; have:=h.b; omega),if_neg (by omega),if_neg (by omega),if_pos q]
   simp only [ByteArray.size_append]
   omega
  ·exact absurd q.2 hw
  ·exact absurd q.2.2.2 hw
theorem jl_mem {x:Dd}:∀ {l:List Dd},x∈l→(deedT x).size≤(jl l).length
 |y :: l,h=>by
  show _≤(lineL y ++ jl l).length
  rw [List.length_append,line_len]
  rcases List.mem_cons.1 h with rfl|h
  ·omega
  ·have:=jl_mem h
   omega
theorem jr_mem {s:ByteArray} {x:Dd} (h:x∈jr s):okDd x∧x.words.size≤s.size:=by
 obtain ⟨t,ht⟩:=jr_spec s
 exact ⟨ht.ok x h,Nat.le_trans (words_le (ht.ok x h)) (Nat.le_trans (jl_mem h) (jn_le s))⟩
end Go.Proofs.YtgdbhjmpkkbnnaaGreatDoor.Vc
end
section
/- Part XB: deeds at a desk, one after the other: the plain law. -/
namespace Go.Proofs.YtgdbhjmpkkbnnaaGreatDoor.Vc
open Go.Proofs
set_option maxRecDepth 10000
set_option maxHeartbeats 4000000
theorem pushP_mem {l:List Place} {x:Place}:∀ p∈pushP l x,p∈l∨p=x:=by
 unfold pushP
 intro p hp
 split at hp
 ·exact (List.mem_append.1 (List.mem_of_mem_drop hp)).imp id fun h=>List.mem_singleton.1 h
 ·exact (List.mem_append.1 hp).imp id fun h=>List.mem_singleton.1 h
theorem pushP_len {l:List Place} {x:Place} (h:l.length≤8):(pushP l x).length≤8:=by
 unfold pushP
 split
 ·rw [List.length_drop,List.length_append]
  show l.length+1-1≤8
  omega
 ·omega
theorem doD_ok {d e:Desk} {a:Dd} (hO:deskOk d) (he:doD d a=some e):deskOk e:=by
 unfold doD at he
 split at he
 ·rename_i g
  cases he
  have m:d.past.getD (d.past.length-1) default∈d.past:=getD_mem' (by omega)
  refine ⟨hO.2.2 _ m,?_,fun p hp=>hO.2.2 p (List.mem_of_mem_take hp)⟩
  have:=hO.2.1
  dsimp only
  rw [List.length_take]
  omega
 ·split at he
  ·rename_i g
   cases he
   exact ⟨g.1,pushP_len hO.2.1,fun p hp=>(pushP_mem p hp).elim (hO.2.2 p) fun k=>k ▸ hO.1⟩
  ·cases he
noncomputable def runD (d:Desk):List Dd→Desk × Nat
 |[]=>(d,0)
 |a :: l=>match doD d a with
  |some e=>((runD e l).1,(runD e l).2+1)
  |none=>runD d l
theorem runD_app (d:Desk) (l m:List Dd):runD d (l ++ m)=((runD (runD d l).1 m).1,(runD d l).2+(runD (runD d l).1 m).2):=by
 induction l generalizing d with
 |nil=>exact Prod.ext rfl (Nat.zero_add _).symm
 |cons a l ih =>
  rw [List.cons_append]
  simp only [runD]
  cases h:doD d a with
  |none=>exact ih d
  |some e =>
   simp only [ih e]
   exact Prod.ext rfl (by dsimp only; omega)
theorem runD_one (d:Desk) (a:Dd):runD d [a]=match doD d a with
  |some e=>(e,1)
  |none=>(d,0):=by
 simp only [runD]
theorem runD_some {d e:Desk} {l:List Dd} {a:Dd} (h:doD (runD d l).1 a=some e):runD d (l ++ [a])=(e,(runD d l).2+1):=by
 rw [runD_app,runD_one,h]
theorem runD_none {d:Desk} {l:List Dd} {a:Dd} (h:doD (runD d l).1 a=none):runD d (l ++ [a])=runD d l:=by
 rw [runD_app,runD_one,h]
 rfl
theorem runD_ok {d:Desk} (h:deskOk d):∀ l:List Dd,deskOk (runD d l).1
 |[]=>h
 |a :: l=>by
  simp only [runD]
  cases e:doD d a with
  |none=>exact runD_ok h l
  |some x=>exact runD_ok (doD_ok h e) l
theorem runD_le (d:Desk):∀ l:List Dd,(runD d l).2≤l.length
 |[]=>Nat.le_refl _
 |a :: l=>by
  simp only [runD]
  cases e:doD d a with
  |none=>have:=runD_le d l; simp only [List.length_cons]; omega
  |some x=>have:=runD_le x l; simp only [List.length_cons]; omega
theorem take_step {l:List Dd} {i:Nat} (h:i<l.length):l.take (i+1)=l.take i ++ [l.getD i default]:=take_succ' default h
end Go.Proofs.YtgdbhjmpkkbnnaaGreatDoor.Vc
end
section
/- Part ZC: what a term says, by the program. -/
namespace Go.Proofs.YtgdbhjmpkkbnnaaGreatDoor.Vc
open Go.Proofs
set_option maxRecDepth 10000
set_option maxHeartbeats 4000000
def bl (s:List Bool) (j:Nat):List AV:=[.bool (s.reverse.getD j false)]
theorem push_len {bs:List Int} {c:Int} {m:Mark} {s:List Bool} (hk:m.kind=0):(stepS bs c m s).length=s.length+1:=by
 unfold stepS
 rw [if_pos hk]
 rfl
theorem push_ext {bs:List Int} {c:Int} {m:Mark} {s:List Bool} {g:Nat→List AV} (hk:m.kind=0) (hg:g 0=[.bool (cnt bs c m)]):(stepS bs c m s).length=s.length+1∧∀ j,j<(stepS bs c m s).length→bl (stepS bs c m s) j=appF s.length (bl s) g j:=by
 unfold stepS
 rw [if_pos hk]
 refine ⟨rfl,fun j hj=>?_⟩
 simp only [List.length_cons] at hj
 unfold appF bl
 rw [List.reverse_cons,List.getD_eq_getElem?_getD,List.getElem?_append]
 cases hb:Nat.blt j s.length with
 |true =>
  have:j<s.length:=Nat.le_of_ble_eq_true hb
  rw [if_pos (by simpa using this),← List.getD_eq_getElem?_getD]
  rfl
 |false =>
  have:¬ j<s.length:=fun h=>by
   have:Nat.blt j s.length=true:=Nat.ble_eq_true_of_le h
   rw [this] at hb; cases hb
  have:j=s.length:=by omega
  subst this
  rw [if_neg (by simp)]
  simp [hg]
theorem rev_a {b a:Bool} {r:List Bool}:(b :: a :: r).reverse.getD r.length false=a:=by
 simp [List.getD_eq_getElem?_getD]
theorem rev_b {b a:Bool} {r:List Bool}:(b :: a :: r).reverse.getD (r.length+1) false=b:=by
 simp [List.getD_eq_getElem?_getD]
theorem conn_len {bs:List Int} {c:Int} {m:Mark} {b a:Bool} {r:List Bool} {n:Nat} (hk:m.kind≠0) (hn:n=r.length):(stepS bs c m (b :: a :: r)).length=n+1:=by
 subst hn
 unfold stepS
 rw [if_neg hk]
 rfl
theorem conn_ext {bs:List Int} {c:Int} {m:Mark} {b a v:Bool} {r:List Bool} {g:Nat→List AV} {n:Nat} (hk:m.kind≠0) (hv:v=if m.kind=2 then a || b else a && b) (hn:n=r.length) (hg:g 0=[.bool v]):(stepS bs c m (b :: a :: r)).length=n+1∧(∀ j,j<(stepS bs c m (b :: a :: r)).length→bl (stepS bs c m (b :: a :: r)) j=appF n (bl (b :: a :: r)) g j):=by
 subst hn
 unfold stepS
 rw [if_neg hk]
 dsimp only
 rw [← hv]
 refine ⟨rfl,fun j hj=>?_⟩
 simp only [List.length_cons] at hj
 unfold appF bl
 rw [List.reverse_cons,List.getD_eq_getElem?_getD,List.getElem?_append]
 cases hb:Nat.blt j r.length with
 |true =>
  have h1:j<r.length:=Nat.le_of_ble_eq_true hb
  rw [if_pos (by simpa using h1)]
  simp [List.getD_eq_getElem?_getD,List.getElem?_append,h1]
  try rw [if_pos (by omega)]
 |false =>
  have:¬ j<r.length:=fun h=>by
   have:Nat.blt j r.length=true:=Nat.ble_eq_true_of_le h
   rw [this] at hb; cases hb
  have:j=r.length:=by omega
  subst this
  rw [if_neg (by simp)]
  simp [hg]
def C39:List AV→(AV→Prop)→Prop:=con (X:=Sy) (fun x=>[house x.p x.bs,slM x.t,.int .i64 x.c]) (fun x=>sayOk x∧x.t.length≤9) fun x K=>K (.bool (says x.bs x.c x.t))
theorem F39:FF 163 C39:=by
 refine fitE [(167,C50)] (by simp only [List.mem_cons,List.not_mem_nil,or_false]; rintro _ rfl <;> first|exact F50) Tryz.f163 ⟨rfl,by decide +kernel,by decide +kernel⟩ (fun _ _ _ hk h=>hk _ h) ?_
 rintro ⟨p,bs,t,c⟩ K ⟨⟨h1,h2,h3,h4,h5⟩,h6⟩ h
 refine ⟨Nat.le_of_ble_eq_true rfl,?_⟩
 dsimp only at h h1 h2 h3 h4 h5 h6 ⊢
 repeat' (first|refine vz ?_|(conv=>whnf); first|with_reducible first|refine Sp.mk ?_ ?_|refine br_d (fun _=>?_) fun _=>?_|refine vM (fun _=>?_) fun _=>?_)
 refine Lp.mk ⟨Nat,fun i=>[(2,.int .i64 c),(3,.ptr 0 0),(6,.bool false),(7,.row 1 1 0 (runS bs c (t.take i) []).length),(14,slM t),(15,.int .i64 t.length),(16,.int .i64 i)],
  fun i=>[.box [.int .i64 p,slI bs],.row 1 (runS bs c (t.take i) []).length (bl (runS bs c (t.take i) []))],fun i=>i≤t.length,fun i=>t.length-i,⟨0,Nat.zero_le _,⟨⟨[some 0,none],[],rfl,rfl,?_,?_⟩⟩⟩,?_⟩
 ·exact wq
 ·exact wq
 intro i i1
 obtain ⟨q,hq⟩:=walk_prefix h2 i
 have hl:=(runS_frame (bs:=bs) (c:=c) (t.take i) [] [] q hq).2
 have hql:q≤i:=by
  have:=walkP_le bs _ _ _ hq
  simp only [List.length_take] at this
  omega
 have hst:i<t.length→∃ q',stepP bs (t.getD i default) q=some q':=fun hi=>by
  obtain ⟨q',hq'⟩:=walk_prefix h2 (i+1)
  rw [walkP_take hi hq] at hq'
  exact ⟨q',hq'⟩
 have hnx:i<t.length→runS bs c (t.take (i+1)) []=stepS bs c (t.getD i default) (runS bs c (t.take i) []):=fun hi=>by
  rw [take_succ' default hi,runS_app]
  rfl
 have hend:¬ i<t.length→runS bs c (t.take i) []=runS bs c t []:=fun hi=>by rw [List.take_of_length_le (by omega)]
 dsimp only
 generalize hs:runS bs c (t.take i) []=s at *
 have hat:i<t.length→(t.getD (i:Int).toNat default).kind=0→0≤(t.getD (i:Int).toNat default).at_∧(t.getD (i:Int).toNat default).at_<bs.length:=fun hi hk=>by
  obtain ⟨q',e⟩:=hst hi
  replace hk:(t.getD i default).kind=0:=hk
  show 0≤(t.getD i default).at_∧(t.getD i default).at_<bs.length
  unfold stepP at e
  split at e
  ·omega
  ·rw [if_neg (by omega)] at e; cases e
 have h2s:i<t.length→¬ (t.getD (i:Int).toNat default).kind=0→2≤s.length:=fun hi hk=>by
  obtain ⟨q',e⟩:=hst hi
  rcases stepP_kind e with ⟨g,_⟩|⟨_,_,g,_⟩
  ·exact absurd g hk
  ·omega
 repeat' (first|refine vz ?_|(conv=>whnf); first|with_reducible first|refine Sp.mk ?_ ?_|refine br_d (fun _=>?_) fun _=>?_|refine vM (fun _=>?_) fun _=>?_)
 ·rename_i hi hk
  have hi:i<t.length:=by omega
  have hb:=hat hi hk
  refine Dr.mk ⟨(.rd 0 (.rd 1 (.rd 2 (.rd 3 (.rd 4 (.rd 5 (.rd 6 (.rd 7 (.rd 8 (.rd 10 (.rd 11 (.ef 9 (.rd 12 (.ef 13 (.ef 14 (.rd 15 .dn) .no) .no)) .no)))))))))))),by decide +kernel,?_⟩
  repeat' (first|refine vz ?_|(conv=>whnf); first|with_reducible first|refine Sp.mk ?_ ?_|refine br_d (fun _=>?_) fun _=>?_|refine vM (fun _=>?_) fun _=>?_)
  have hb2:=h3 _ (getD_mem' (l:=bs) (i:=(t.getD (i:Int).toNat default).at_.toNat) (d:=0) (by omega))
  have hb3:=band_lt hb2.1 hb2.2 h4 h5
  refine ⟨band (bs.getD (t.getD (i:Int).toNat default).at_.toNat 0) c,?_,⟨hb3⟩,?_⟩
  ·exact wq
  repeat' (first|refine vz ?_|(conv=>whnf); first|with_reducible first|refine Sp.mk ?_ ?_|refine br_d (fun _=>?_) fun _=>?_|refine vM (fun _=>?_) fun _=>?_)
  refine ⟨i+1,by show i+1≤t.length; omega,by show t.length-(i+1)<t.length-i; omega,⟨⟨[some 0,some 4],[],rfl,rfl,?_,?_⟩⟩⟩
  ·repeat' ((conv=>whnf); first|with_reducible exact True.intro|exact vW|with_reducible refine And.intro ?_ ?_)
   (conv=>whnf)
   refine Chk.mk ⟨rfl,?_⟩
   rw [hnx hi]
   exact push_len hk
  ·repeat' ((conv=>whnf); first|with_reducible exact True.intro|exact vW|with_reducible refine And.intro ?_ ?_)
   (conv=>whnf)
   refine Chk.mk ?_
   rw [hnx hi]
   exact push_ext hk rfl
 ·rename_i hi hk
  have hi:i<t.length:=by omega
  have hb:=h2s hi hk
  replace hk:(t.getD i default).kind≠0:=hk
  match s,hb,hnx with
  |b :: a :: r,hb,hnx =>
   have n2:(((b :: a :: r).length:Int)-2).toNat=r.length:=by simp only [List.length_cons]; omega
   have n1:(((b :: a :: r).length:Int)-1).toNat=r.length+1:=by simp only [List.length_cons]; omega
   have ea:(b :: a :: r).reverse.getD (0+(((b :: a :: r).length:Int)-2).toNat) false=a:=by rw [n2,Nat.zero_add]; exact rev_a
   have eb:(b :: a :: r).reverse.getD (0+(((b :: a :: r).length:Int)-1).toNat) false=b:=by rw [n1,Nat.zero_add]; exact rev_b
   refine Dr.mk ⟨(.rd 0 (.rd 1 (.rd 2 (.rd 3 (.rd 4 (.rd 5 (.rd 6 (.rd 7 (.rd 8 (.rd 9 (.rd 10 (.rd 11 (.rd 12 (.rd 13 .dn)))))))))))))),by decide +kernel,?_⟩
   repeat' (first|refine vz ?_|(conv=>whnf); first|with_reducible first|refine Sp.mk ?_ ?_|refine br_d (fun _=>?_) fun _=>?_|refine vM (fun _=>?_) fun _=>?_)
   all_goals
    rename_i g1 g2
    replace g1:=ea.symm.trans g1
   all_goals
    refine ⟨i+1,by show i+1≤t.length; omega,by show t.length-(i+1)<t.length-i; omega,⟨⟨[some 0,some 4],[],rfl,rfl,?_,?_⟩⟩⟩
    ·repeat' ((conv=>whnf); first|with_reducible exact True.intro|exact vW|with_reducible refine And.intro ?_ ?_)
     all_goals
      (conv=>whnf)
      refine Chk.mk ⟨rfl,?_⟩
      rw [hnx hi]
      exact conn_len hk n2
    ·repeat' ((conv=>whnf); first|with_reducible exact True.intro|exact vW|with_reducible refine And.intro ?_ ?_)
     all_goals
      (conv=>whnf)
      refine Chk.mk ?_
      rw [hnx hi]
      refine conn_ext hk ?_ n2 rfl
      first
       |(rw [if_pos (show (t.getD i default).kind=2 from g2)]; first|(rw [g1]; rfl)|(refine eb.trans ?_; rw [g1]; rfl))
       |(rw [if_neg (show ¬ (t.getD i default).kind=2 from g2)]; first|(rw [g1]; rfl)|(refine eb.trans ?_; rw [g1]; rfl))
 have e:=hend (by omega)
 obtain ⟨v,hv⟩:=List.length_eq_one_iff.1 (runS_frame (bs:=bs) (c:=c) t [] [] 1 h2).2
 rw [hv] at e
 subst e
 have hsay:says bs c t=v:=by unfold says; rw [hv]; rfl
 rw [hsay] at h
 repeat' (first|refine vz ?_|(conv=>whnf); first|with_reducible first|refine Sp.mk ?_ ?_|refine br_d (fun _=>?_) fun _=>?_|refine vM (fun _=>?_) fun _=>?_)
 exact h
end Go.Proofs.YtgdbhjmpkkbnnaaGreatDoor.Vc
end
section
/- Part XI: slices.Equal, slices.Delete, and what an amendment asks. -/
namespace Go.Proofs.YtgdbhjmpkkbnnaaGreatDoor.Vc
open Go.Proofs Go.RowKit Go.Lib Go.Sort
set_option maxRecDepth 10000
set_option maxHeartbeats 4000000
/-! ### slices.Equal -/
theorem eq_of_getD {α:Type} [Inhabited α] {d:α} {l m:List α} (hl:l.length=m.length) (h:∀ i,i<l.length→l.getD i d=m.getD i d):l=m:=by
 apply List.ext_getElem hl
 intro i h1 h2
 have:=h i h1
 rwa [List.getD_eq_getElem?_getD,List.getD_eq_getElem?_getD,List.getElem?_eq_getElem h1,List.getElem?_eq_getElem h2] at this
def C268:List AV→(AV→Prop)→Prop:=con (X:=List Int × List Int) (fun x=>[slI x.1,slI x.2]) (fun x=>x.1.length<9223372036854775808) fun x K=>K (.bool (decide (x.1=x.2)))
theorem F268:FF 135 C268:=by
 refine fitE [] (by simp) Tryz.f135 ⟨rfl,by decide +kernel,by decide +kernel⟩ (fun _ _ _ hk h=>hk _ h) ?_
 rintro ⟨l,m⟩ K h1 h
 refine ⟨Nat.le_of_ble_eq_true rfl,?_⟩
 dsimp only at h h1 ⊢
 by_cases hlen:l.length=m.length
 ·repeat' (first|refine vz ?_|(conv=>whnf); first|with_reducible first|refine Sp.mk ?_ ?_|refine br_d (fun _=>?_) fun _=>?_|refine vM (fun _=>?_) fun _=>?_)
  refine Lp.mk ⟨Nat,fun i=>[(0,slI l),(1,slI m),(12,.int .i64 l.length),(13,.int .i64 i)],fun _=>[],fun i=>i≤l.length∧∀ j,j<i→l.getD j 0=m.getD j 0,fun i=>l.length-i,⟨0,⟨Nat.zero_le _,fun j hj=>absurd hj (Nat.not_lt_zero _)⟩,⟨⟨[],[],rfl,rfl,?_,?_⟩⟩⟩,?_⟩
  ·exact wq
  ·exact wq
  rintro i ⟨i1,i2⟩
  dsimp only
  repeat' (first|refine vz ?_|(conv=>whnf); first|with_reducible first|refine Sp.mk ?_ ?_|refine br_d (fun _=>?_) fun _=>?_|refine vM (fun _=>?_) fun _=>?_)
  ·rename_i hi
   refine Dr.mk ⟨(.rd 0 (.rd 1 (.rd 2 (.rd 3 (.rd 4 (.rd 5 (.rd 6 (.rd 7 (.rd 8 .dn))))))))),by decide +kernel,?_⟩
   repeat' (first|refine vz ?_|(conv=>whnf); first|with_reducible first|refine Sp.mk ?_ ?_|refine br_d (fun _=>?_) fun _=>?_|refine vM (fun _=>?_) fun _=>?_)
   ·rename_i he
    replace he:l.getD i 0=m.getD i 0:=he
    refine ⟨i+1,⟨by omega,fun j hj=>?_⟩,by omega,⟨⟨[],[],rfl,rfl,?_,?_⟩⟩⟩
    ·by_cases e:j=i
     ·subst e; exact he
     ·exact i2 j (by omega)
    ·exact wq
    ·exact wq
   ·rename_i he
    replace he:¬ l.getD i 0=m.getD i 0:=he
    exact yesF h fun q=>he (by rw [q])
  ·rename_i hi
   exact yesT h (eq_of_getD (d:=0) hlen fun j hj=>i2 j (by omega))
 ·repeat' (first|refine vz ?_|(conv=>whnf); first|with_reducible first|refine Sp.mk ?_ ?_|refine br_d (fun _=>?_) fun _=>?_|refine vM (fun _=>?_) fun _=>?_)
  exact yesF h fun q=>hlen (by rw [q])
def C269:List AV→(AV→Prop)→Prop:=con (X:=List ByteArray × List ByteArray) (fun x=>[slS x.1,slS x.2]) (fun x=>x.1.length<9223372036854775808) fun x K=>K (.bool (decide (x.1=x.2)))
theorem F269:FF 136 C269:=by
 refine fitE [] (by simp) Tryz.f136 ⟨rfl,by decide +kernel,by decide +kernel⟩ (fun _ _ _ hk h=>hk _ h) ?_
 rintro ⟨l,m⟩ K h1 h
 refine ⟨Nat.le_of_ble_eq_true rfl,?_⟩
 dsimp only at h h1 ⊢
 by_cases hlen:l.length=m.length
 ·repeat' (first|refine vz ?_|(conv=>whnf); first|with_reducible first|refine Sp.mk ?_ ?_|refine br_d (fun _=>?_) fun _=>?_|refine vM (fun _=>?_) fun _=>?_)
  refine Lp.mk ⟨Nat,fun i=>[(0,slS l),(1,slS m),(12,.int .i64 l.length),(13,.int .i64 i)],fun _=>[],fun i=>i≤l.length∧∀ j,j<i→l.getD j ⟨#[]⟩=m.getD j ⟨#[]⟩,fun i=>l.length-i,⟨0,⟨Nat.zero_le _,fun j hj=>absurd hj (Nat.not_lt_zero _)⟩,⟨⟨[],[],rfl,rfl,?_,?_⟩⟩⟩,?_⟩
  ·exact wq
  ·exact wq
  rintro i ⟨i1,i2⟩
  dsimp only
  repeat' (first|refine vz ?_|(conv=>whnf); first|with_reducible first|refine Sp.mk ?_ ?_|refine br_d (fun _=>?_) fun _=>?_|refine vM (fun _=>?_) fun _=>?_)
  ·rename_i hi
   refine Dr.mk ⟨(.rd 0 (.rd 1 (.rd 2 (.rd 3 (.rd 4 (.rd 5 (.rd 6 (.rd 7 (.rd 8 .dn))))))))),by decide +kernel,?_⟩
   repeat' (first|refine vz ?_|(conv=>whnf); first|with_reducible first|refine Sp.mk ?_ ?_|refine br_d (fun _=>?_) fun _=>?_|refine vM (fun _=>?_) fun _=>?_)
   ·rename_i he
    replace he:l.getD i ⟨#[]⟩=m.getD i ⟨#[]⟩:=he
    refine ⟨i+1,⟨by omega,fun j hj=>?_⟩,by omega,⟨⟨[],[],rfl,rfl,?_,?_⟩⟩⟩
    ·by_cases e:j=i
     ·subst e; exact he
     ·exact i2 j (by omega)
    ·exact wq
    ·exact wq
   ·rename_i he
    replace he:¬ l.getD i ⟨#[]⟩=m.getD i ⟨#[]⟩:=he
    exact yesF h fun q=>he (by rw [q])
  ·rename_i hi
   exact yesT h (eq_of_getD (d:=⟨#[]⟩) hlen fun j hj=>i2 j (by omega))
 ·repeat' (first|refine vz ?_|(conv=>whnf); first|with_reducible first|refine Sp.mk ?_ ?_|refine br_d (fun _=>?_) fun _=>?_|refine vM (fun _=>?_) fun _=>?_)
  exact yesF h fun q=>hlen (by rw [q])
theorem place_eq {p q:Int} {a b:List Int} {r s:List ByteArray}:(⟨p,a,r⟩:Place)=⟨q,b,s⟩ ↔ p=q∧a=b∧r=s:=by
 constructor
 ·intro h; injection h with h1 h2 h3; exact ⟨h1,h2,h3⟩
 ·rintro ⟨rfl,rfl,rfl⟩; rfl
structure Pp where
 x:Place
 y:Place
def C263:List AV→(AV→Prop)→Prop:=con (X:=Pp) (fun x=>[enPl x.x,enPl x.y]) (fun x=>x.x.bs.length<9223372036854775808∧x.x.rules.length<9223372036854775808) fun x K=>∀ b:Bool,(b=true ↔ x.x=x.y)→K (.bool b)
theorem F263:FF 104 C263:=by
 refine fitX [(135,C268),(136,C269)] (by simp only [List.mem_cons,List.not_mem_nil,or_false]; rintro _ (rfl|rfl) <;> first|exact F268|exact F269) [] (by simp) Tryz.f104 ⟨rfl,by decide +kernel,by decide +kernel⟩ (fun _ _ _ hk h b q=>hk _ (h b q)) ?_
 rintro ⟨⟨p,bs,rs⟩,⟨q,cs,ss⟩⟩ K ⟨h1,h2⟩ h
 refine ⟨Nat.le_of_ble_eq_true rfl,?_⟩
 dsimp only [enPl,plC] at h h1 h2 ⊢
 repeat' (first|refine vz ?_|(conv=>whnf); first|with_reducible first|refine Sp.mk ?_ ?_|refine br_d (fun _=>?_) fun _=>?_|refine vM (fun _=>?_) fun _=>?_)
 ·refine ⟨(bs,cs),?_,⟨h1⟩,?_⟩
  ·exact wq
  dsimp only
  by_cases hb:bs=cs
  ·rw [decide_eq_true hb]
   repeat' (first|refine vz ?_|(conv=>whnf); first|with_reducible first|refine Sp.mk ?_ ?_|refine br_d (fun _=>?_) fun _=>?_|refine vM (fun _=>?_) fun _=>?_)
   refine ⟨(rs,ss),?_,⟨h2⟩,?_⟩
   ·exact wq
   repeat' (first|refine vz ?_|(conv=>whnf); first|with_reducible first|refine Sp.mk ?_ ?_|refine br_d (fun _=>?_) fun _=>?_|refine vM (fun _=>?_) fun _=>?_)
   exact h _ ⟨fun g=>place_eq.2 ⟨by assumption,hb,of_decide_eq_true g⟩,fun g=>decide_eq_true (place_eq.1 g).2.2⟩
  ·rw [decide_eq_false hb]
   repeat' (first|refine vz ?_|(conv=>whnf); first|with_reducible first|refine Sp.mk ?_ ?_|refine br_d (fun _=>?_) fun _=>?_|refine vM (fun _=>?_) fun _=>?_)
   exact h _ ⟨fun g=>(by cases g),fun g=>absurd (place_eq.1 g).2.1 hb⟩
 ·exact h _ ⟨fun g=>(by cases g),fun g=>absurd (place_eq.1 g).1 (by assumption)⟩
/-! ### slices.Delete -/
theorem strs_map {l:List ByteArray}:Lib.strsOf (fun i=>l.getD i ⟨#[]⟩) l.length=l.map (fun (x:ByteArray)=>x.data.toList):=by
 unfold Lib.strsOf
 apply List.ext_getElem (by simp)
 intro i h1 h2
 have hi:i<l.length:=by simpa using h2
 simp only [List.getElem_map,List.getElem_range]
 rw [List.getD_eq_getElem?_getD,List.getElem?_eq_getElem hi]
 rfl
structure Dl where
 l:List ByteArray
 n:Nat
def C267:GC:=conG (X:=Dl) (fun x=>[.row 0 1 0 x.l.length,.int .i64 x.n,.int .i64 ((x.n:Int)+1)]) (fun x=>[.row 1 x.l.length fun i=>encS (x.l.getD i ⟨#[]⟩)]) (fun x=>x.n<x.l.length) fun x K=>K (.row 0 1 0 (x.l.length-1)) [.row 1 (x.l.length-1) fun i=>encS ((x.l.take x.n ++ x.l.drop (x.n+1)).getD i ⟨#[]⟩)]
theorem F267:GG 134 C267:=fun Gl hG=>by
 refine ⟨FnOk.has ⟨rfl,by decide +kernel,by decide +kernel⟩ (fn:=Tryz.f134),fun us og K K' hk ⟨x,h1,h2,h3,h4⟩=>⟨x,h1,h2,h3,hk _ _ h4⟩,?_⟩
 rintro us og K ⟨⟨l,n⟩,rfl,rfl,⟨hn⟩,hK⟩ ρ R w xs hh ha
 dsimp only at hn hK
 obtain ⟨hsz,hx⟩:=ha
 replace hsz:xs.size=3:=hsz
 have a0:=(hx 0 (by show 0<3; omega)).vr rfl
 have a1:=(hx 1 (by show 1<3; omega)).vr rfl
 have a2:=(hx 2 (by show 2<3; omega)).vr rfl
 have ex:xs=#[xs.getD 0 Go.undef,xs.getD 1 Go.undef,xs.getD 2 Go.undef]:=by
  apply Array.ext
  ·simpa using hsz
  ·intro i h1 h2
   have:i=0∨i=1∨i=2:=by omega
   rcases this with rfl|rfl|rfl <;> simp [h1]
 rw [ex]
 generalize xs.getD 0 Go.undef=x0 at a0
 generalize xs.getD 1 Go.undef=x1 at a1
 generalize xs.getD 2 Go.undef=x2 at a2
 replace a0:VR ρ R w (.row 0 1 0 l.length) x0:=a0
 replace a1:VR ρ R w (.int .i64 n) x1:=a1
 replace a2:VR ρ R w (.int .i64 ((n:Int)+1)) x2:=a2
 obtain rfl:x1=.int .i64 n:=by cases a1 with|data a1=>cases a1; rfl
 obtain rfl:x2=.int .i64 ((n:Int)+1):=by cases a2 with|data a2=>cases a2; rfl
 obtain ⟨b,cs,ty,g1,g2,g3,g4,g5⟩:∃ b xs ty,ρ ((0:Nat):Ix)=some b∧w.heap[b]?=some (.cells xs ty (0,0))∧l.length*1≤xs.size∧(∀ i,i<l.length→(encS (l.getD i ⟨#[]⟩)).length=1)∧∀ i,i<l.length→∀ j,j<1→DR R w ((encS (l.getD i ⟨#[]⟩)).getD j .undef) (xs.getD (i*1+j) Go.undef):=by
  rcases hh.obj 0 _ rfl with ⟨q,_⟩|q
  ·have q':l.length=0:=q
   omega
  ·exact q
 obtain ⟨cap,rfl,hcap⟩:∃ cap,x0=.slice (some ⟨b,0,none⟩) l.length cap∧l.length≤cap∧cap≤cs.size∧cap≤9223372036854775807:=by
  generalize hl:l.length=len at a0
  cases a0 with
  |data a0=>cases a0
  |row h1 h2 h3 h4 h5 =>
   rw [g1] at h1
   cases h1
   rw [g2] at h2
   cases h2
   exact ⟨_,by rw [Nat.zero_mul],h3,by omega,h5⟩
  |row0=>rw [hl] at hn; exact absurd hn (Nat.not_lt_zero _)
 have hc:∀ i,i<l.length→w.cell? ⟨b,0+i,none⟩=some (.string (l.getD i ⟨#[]⟩)):=fun i hi=>by
  have h6:=g5 i hi 0 (by decide)
  rw [Nat.mul_one,Nat.add_zero] at h6
  have h7:DR R w (.str (l.getD i ⟨#[]⟩)) (cs.getD i Go.undef):=h6
  have hics:i<cs.size:=by omega
  rw [Array.getD_eq_getD_getElem?,Array.getElem?_eq_getElem hics] at h7
  unfold World.cell?
  rw [Nat.zero_add]
  show (match w.heap[b]? with|some (.cells c _ _)=>if (none:Option Nat).isSome then none else c[i]?|_=>none)=_
  rw [g2]
  show cs[i]?=_
  rw [Array.getElem?_eq_getElem hics]
  simp only [Option.getD_some] at h7
  generalize cs[i]=v at h7 ⊢
  cases h7
  rfl
 have hf:∀ j,j<l.length→w.frozen? ⟨b,0+j,none⟩=false:=fun j _=>by
  unfold World.frozen?
  rw [show w.heap[(⟨b,0+j,none⟩:Addr).block]?=some (.cells cs ty (0,0)) from g2]
  simp
 have hcm:cap≤9223372036854775807:=hcap.2.2
 refine (Tryz.slices_Delete_string_cells b 0 l.length cap n (n+1) (fun i=>l.getD i ⟨#[]⟩) w hcap.1 hcm (Nat.le_succ n) hn hc hf).mono fun e w' he=>?_
 obtain ⟨rfl,q,rfl⟩:=he
 rw [strs_map,show n+1-n=1 by omega,← List.map_take,← List.map_drop,← List.map_append]
 obtain ⟨m,hm⟩:∃ m,l.take n ++ l.drop (n+1)=m:=⟨_,rfl⟩
 have hml:m.length=l.length-1:=by rw [← hm,List.length_append,List.length_take,List.length_drop]; omega
 rw [hm] at hK ⊢
 obtain ⟨vs,hvs⟩:∃ vs,(m.map (fun (x:ByteArray)=>x.data.toList) ++ List.replicate 1 []).map encStr=vs:=⟨_,rfl⟩
 have hvl:vs.length=l.length:=by rw [← hvs,List.length_map,List.length_append,List.length_map,List.length_replicate]; omega
 have hvg:∀ j,j<l.length-1→vs.getD j Go.undef=.string (m.getD j ⟨#[]⟩):=fun j hj=>by
  rw [← hvs,List.getD_eq_getElem?_getD,List.getElem?_map,List.getElem?_append_left (by rw [List.length_map]; omega),List.getElem?_map,List.getD_eq_getElem?_getD,List.getElem?_eq_getElem (by omega)]
  rfl
 obtain ⟨ys,f1,f2,f3,f4,f5,f6,f7,f8⟩:=setCells_facts vs 0 (w:=w.drewN q) (b:=b) (xs:=cs) (ty:=ty) g2 (by omega)
 rw [hvs]
 have hsame:∀ c,c≠b→((w.drewN q).setCells b 0 vs).heap[c]?=w.heap[c]?:=f4
 have hobj:OB ρ [.row 1 (l.length-1) fun i=>encS (m.getD i ⟨#[]⟩)] R ((w.drewN q).setCells b 0 vs) 0 (.row 1 (l.length-1) fun i=>encS (m.getD i ⟨#[]⟩)):=.inr ⟨b,ys,ty,g1,f1,by omega,fun _ _=>rfl,fun i hi j hj=>by
  obtain rfl:j=0:=by omega
  rw [Nat.mul_one,Nat.add_zero,f3 i,if_pos (by omega),Nat.sub_zero,hvg i hi]
  exact .str _⟩
 have nid:∀ id q' b',ρ (.inn id q')=some b'→False:=fun id q' b' h=>by
  obtain ⟨_,_,_,_,e⟩:=hh.din id q' b' h
  match id,e with
  |0,e=>cases e
  |k+1,e=>cases e
 refine ⟨_,_,_,ρ,R,rfl,hK,⟨fun id b' h=>by have:=hh.dom id b' h; exact this,fun id q' b' h=>(nid id q' b' h).elim,fun id b' h=>by rw [f5]; exact hh.lt id b' h,hh.inj,fun b' h=>⟨by rw [f5]; exact (hh.ro b' h).1,(hh.ro b' h).2⟩,fun id ob h=>?_,fun p hp=>⟨(hh.gl p hp).1,?_⟩⟩,⟨rfl,fun _=>?_⟩,Nat.le_refl _,?_⟩
 ·match id,h with
  |0,h=>cases h; exact hobj
  |k+1,h=>cases h
 ·rw [hsame p.1 fun e=>(hh.ro _ (hh.gl p hp).1).2 ((0:Nat):Ix) (by rw [g1,e])]
  exact (hh.gl p hp).2
 ·have h4:(0+cap)*1≤ys.size:=by omega
  have:=VR.row (ρ:=ρ) (R:=R) (w:=(w.drewN q).setCells b 0 vs) (id:=0) (sz:=1) (off:=0) (len:=l.length-1) (b:=b) (cs:=ys) (ty:=ty) (cap:=cap) g1 f1 (by omega) h4 hcm
  rwa [Nat.zero_mul] at this
 ·refine ⟨fun id hid=>?_,fun _ h=>h,fun _ h=>.inl h,fun id _ h=>.inr ⟨id,h⟩,Nat.le_of_eq f5.symm,fun c _ hne=>hsame c fun e=>hne ((0:Nat):Ix) (e ▸ g1),fun c xs' ty' h=>?_,f6,f7,f8⟩
  ·match id,hid with
   |0,_=>exact ⟨⟨_,_,rfl⟩,rfl⟩
  ·by_cases e:c=b
   ·subst e
    rw [g2] at h
    cases h
    exact ⟨ys,f1,f2⟩
   ·exact ⟨xs',by rw [hsame c e]; exact h,rfl⟩
end Go.Proofs.YtgdbhjmpkkbnnaaGreatDoor.Vc
end
section
/- Part XJ: what a deed makes of a place, by the implementation. -/
namespace Go.Proofs.YtgdbhjmpkkbnnaaGreatDoor.Vc
open Go.Proofs
set_option maxRecDepth 10000
set_option maxHeartbeats 4000000
def C266:List AV→(AV→Prop)→Prop:=con (X:=Pc) (fun x=>[enPl x.x,.int .i64 x.r,.int .i64 x.c]) (fun x=>placeI x.x∧placeOk x.x∧i64r x.r∧i64r x.c) fun x K=>K (.bool (consR x.x x.r x.c))
theorem F266:FF 133 C266:=by
 refine fitE [(139,C54),(121,C176),(163,C39)] (by simp only [List.mem_cons,List.not_mem_nil,or_false]; rintro _ (rfl|rfl|rfl) <;> first|exact F54|exact F176|exact F39) Tryz.f133 ⟨rfl,by decide +kernel,by decide +kernel⟩ (fun _ _ _ hk h=>hk _ h) ?_
 rintro ⟨⟨p,bs,rs⟩,r,c⟩ K ⟨hI,hO,hr,hc⟩ h
 refine ⟨Nat.le_of_ble_eq_true rfl,?_⟩
 have hI1:=hI.1
 have hI2:=hI.2.1
 have hI3:=hI.2.2
 have hp:=hI.1.1.1
 unfold consR at h
 dsimp only [enPl,plC] at h hr hc hI2 hI3 hp ⊢
 by_cases hin:0≤r∧r<rs.length
 ·rw [if_pos hin] at h
  have hr2:r.toNat<rs.length:=by omega
  obtain ⟨t,e'⟩:=bad_term (hO.2.2 _ (getD_mem' (l:=rs) (i:=r.toNat) (d:=⟨#[]⟩) hr2))
  rw [e'] at h
  dsimp only at h
  obtain ⟨ht,hOt⟩:=rdT_termI hI1 e'
  repeat' (first|refine vz ?_|(conv=>whnf); first|with_reducible first|refine Sp.mk ?_ ?_|refine br_d (fun _=>?_) fun _=>?_|refine vM (fun _=>?_) fun _=>?_)
  refine ⟨(p,c),?_,⟨hp,hc⟩,?_⟩
  ·exact wq
  by_cases hcr:crowd p c
  ·rw [decide_eq_true hcr,Bool.true_and] at h
   dsimp only
   rw [decide_eq_true hcr]
   repeat' (first|refine vz ?_|(conv=>whnf); first|with_reducible first|refine Sp.mk ?_ ?_|refine br_d (fun _=>?_) fun _=>?_|refine vM (fun _=>?_) fun _=>?_)
   refine Dr.mk ⟨(.rd 0 (.rd 1 (.rd 2 (.rd 3 (.rd 4 (.rd 5 (.rd 6 (.ef 7 (.rd 8 (.rd 9 (.rd 10 (.rd 11 (.rd 12 .dn))))) .no)))))))),by decide +kernel,?_⟩
   repeat' (first|refine vz ?_|(conv=>whnf); first|with_reducible first|refine Sp.mk ?_ ?_|refine br_d (fun _=>?_) fun _=>?_|refine vM (fun _=>?_) fun _=>?_)
   refine ⟨⟨⟨p,bs⟩,rs.getD r.toNat ⟨#[]⟩⟩,?_,⟨hI1,getD_len hI3 hr2⟩,?_⟩
   ·exact wq
   refine And.intro (fun e=>?_) (fun u e=>?_)
   ·rw [show rdT 49 (Place.h ⟨p,bs,rs⟩) (rs.getD r.toNat ⟨#[]⟩)=none from e] at e'
    cases e'
   ·rw [show rdT 49 (Place.h ⟨p,bs,rs⟩) (rs.getD r.toNat ⟨#[]⟩)=some u from e] at e'
    cases e'
    repeat' (first|refine vz ?_|(conv=>whnf); first|with_reducible first|refine Sp.mk ?_ ?_|refine br_d (fun _=>?_) fun _=>?_|refine vM (fun _=>?_) fun _=>?_)
    refine ⟨⟨p,bs,t,c⟩,?_,⟨sayOk_of' hOt hcr,hOt.2.1⟩,?_⟩
    ·exact wq
    repeat' (first|refine vz ?_|(conv=>whnf); first|with_reducible first|refine Sp.mk ?_ ?_|refine br_d (fun _=>?_) fun _=>?_|refine vM (fun _=>?_) fun _=>?_)
    exact h
  ·rw [decide_eq_false hcr,Bool.false_and] at h
   dsimp only
   rw [decide_eq_false hcr]
   repeat' (first|refine vz ?_|(conv=>whnf); first|with_reducible first|refine Sp.mk ?_ ?_|refine br_d (fun _=>?_) fun _=>?_|refine vM (fun _=>?_) fun _=>?_)
   exact h
 ·rw [if_neg hin] at h
  repeat' (first|refine vz ?_|(conv=>whnf); first|with_reducible first|refine Sp.mk ?_ ?_|refine br_d (fun _=>?_) fun _=>?_|refine vM (fun _=>?_) fun _=>?_)
  all_goals exact h
def npPost (x:Pd) (K:AV→Prop):Prop:=∀ (y:Place) (ok:Bool),(ok=true→y=madeP x.x x.a)→(ok=false→madeP x.x x.a=default)→K (.tup [enPl y,.bool ok])
def C262:List AV→(AV→Prop)→Prop:=con (X:=Pd) (fun x=>[enPl x.x,ded x.a]) (fun x=>placeI x.x∧placeOk x.x∧dedI x.a) npPost
theorem F262:FF 103 C262:=by
 refine fitXE [(133,C266)] (by simp only [List.mem_cons,List.not_mem_nil,or_false]; rintro _ rfl; exact F266) [(99,C157g),(134,C267)] (by simp only [List.mem_cons,List.not_mem_nil,or_false]; rintro _ (rfl|rfl) <;> first|exact F157g|exact F267) Tryz.f103 ⟨rfl,by decide +kernel,by decide +kernel⟩ (fun _ _ _ hk h y ok h1 h2=>hk _ (h y ok h1 h2)) ?_
 rintro ⟨⟨p,bs,rs⟩,⟨k,a,b,w⟩⟩ K ⟨hI,hO,h1,h2,h3,h4⟩ h
 refine ⟨Nat.le_of_ble_eq_true rfl,?_⟩
 have hs1:rs.length≤4:=hO.2.1.2
 have hs2:bs.length≤4:=hO.1.2.1
 unfold npPost at h
 dsimp only [ded,encD,enPl,plC] at h h1 h2 h3 h4 ⊢
 repeat' (first|refine vz ?_|(conv=>whnf); first|with_reducible first|refine Sp.mk ?_ ?_|refine br_d (fun _=>?_) fun _=>?_|refine vM (fun _=>?_) fun _=>?_)
 refine ⟨_,_,[],[],rfl,?_,?_,⟨p,bs,rs⟩,rfl,rfl,⟨by dsimp only; omega,by dsimp only; omega⟩,?_⟩
 ·exact wq
 ·exact wq
 dsimp only [plG,plO]
 have y1:=ext_sym (ext_push (enc:=encI) (d:=0) (l:=bs) (x:=a) (g:=fun i=>(fun i=>[[AV.int .i64 a]].getD i [.int .i64 0]) (0+i)) rfl)
 have y2:=ext_sym (ext_push (enc:=encS) (d:=⟨#[]⟩) (l:=rs) (x:=w) (g:=fun i=>(fun i=>[[AV.str w]].getD i [.str ⟨#[]⟩]) (0+i)) rfl)
 repeat' (first|refine vz ?_|(conv=>whnf); first|with_reducible first|refine Sp.mk ?_ ?_|refine br_d (fun _=>?_) fun _=>?_|refine vM (fun _=>?_) fun _=>?_)
 ·rename_i q1
  refine Dr.mk ⟨(.rd 0 (.rd 1 (.rd 2 (.rd 3 (.rd 4 (.rd 5 (.rd 6 (.rd 7 (.rd 8 (.ef 9 (.rd 10 .dn) .no)))))))))),by decide +kernel,?_⟩
  repeat' (first|refine vz ?_|(conv=>whnf); first|with_reducible first|refine Sp.mk ?_ ?_|refine br_d (fun _=>?_) fun _=>?_|refine vM (fun _=>?_) fun _=>?_)
  ·rename_i q2
   by_cases hw:w=⟨#[]⟩
   ·rw [decide_eq_true hw]
    refine ⟨_,?_,h ⟨p,bs++[a],rs⟩ true (fun q=>(made_0 (x:=⟨p,bs,rs⟩) q1 q2 hw).symm) (fun q=>(by cases q))⟩
    repeat' ((conv=>whnf); first|with_reducible exact True.intro|exact vW|with_reducible refine And.intro ?_ ?_)
    all_goals first|exact Chk.mk ⟨rfl,fun i _=>by dsimp only; rw [Nat.zero_add]⟩|exact Chk.mk y1
   ·rw [decide_eq_false hw]
    refine ⟨_,?_,h ⟨p,bs++[a],rs⟩ false (fun q=>(by cases q)) (fun q=>(made_0n q1 fun g=>hw g.2))⟩
    repeat' ((conv=>whnf); first|with_reducible exact True.intro|exact vW|with_reducible refine And.intro ?_ ?_)
    all_goals first|exact Chk.mk ⟨rfl,fun i _=>by dsimp only; rw [Nat.zero_add]⟩|exact Chk.mk y1
  ·rename_i q2
   refine ⟨_,?_,h ⟨p,bs++[a],rs⟩ false (fun q=>(by cases q)) (fun q=>(made_0n q1 fun g=>q2 g.1))⟩
   repeat' ((conv=>whnf); first|with_reducible exact True.intro|exact vW|with_reducible refine And.intro ?_ ?_)
   all_goals first|exact Chk.mk ⟨rfl,fun i _=>by dsimp only; rw [Nat.zero_add]⟩|exact Chk.mk y1
 ·rename_i q0 q1
  refine Dr.mk ⟨(.rd 0 (.rd 1 (.rd 2 (.rd 3 (.rd 4 (.rd 5 (.rd 6 (.rd 7 (.rd 8 (.ef 9 (.rd 10 .dn) .no)))))))))),by decide +kernel,?_⟩
  repeat' (first|refine vz ?_|(conv=>whnf); first|with_reducible first|refine Sp.mk ?_ ?_|refine br_d (fun _=>?_) fun _=>?_|refine vM (fun _=>?_) fun _=>?_)
  ·rename_i q2
   by_cases hb:b=0
   ·rw [decide_eq_true hb]
    refine ⟨_,?_,h ⟨p,bs,rs++[w]⟩ true (fun q=>(made_1 (x:=⟨p,bs,rs⟩) q1 q2 hb).symm) (fun q=>(by cases q))⟩
    repeat' ((conv=>whnf); first|with_reducible exact True.intro|exact vW|with_reducible refine And.intro ?_ ?_)
    all_goals first|exact Chk.mk ⟨rfl,fun i _=>by dsimp only; rw [Nat.zero_add]⟩|exact Chk.mk y2
   ·rw [decide_eq_false hb]
    refine ⟨_,?_,h ⟨p,bs,rs++[w]⟩ false (fun q=>(by cases q)) (fun q=>(made_1n q1 fun g=>hb g.2))⟩
    repeat' ((conv=>whnf); first|with_reducible exact True.intro|exact vW|with_reducible refine And.intro ?_ ?_)
    all_goals first|exact Chk.mk ⟨rfl,fun i _=>by dsimp only; rw [Nat.zero_add]⟩|exact Chk.mk y2
  ·rename_i q2
   refine ⟨_,?_,h ⟨p,bs,rs++[w]⟩ false (fun q=>(by cases q)) (fun q=>(made_1n q1 fun g=>q2 g.1))⟩
   repeat' ((conv=>whnf); first|with_reducible exact True.intro|exact vW|with_reducible refine And.intro ?_ ?_)
   all_goals first|exact Chk.mk ⟨rfl,fun i _=>by dsimp only; rw [Nat.zero_add]⟩|exact Chk.mk y2
 ·rename_i q0 q1 q2
  refine ⟨⟨⟨p,bs,rs⟩,a,b⟩,?_,⟨hI,hO,h2,h3⟩,?_⟩
  ·repeat' ((conv=>whnf); first|with_reducible exact True.intro|exact vW|with_reducible refine And.intro ?_ ?_)
   all_goals exact Chk.mk ⟨rfl,fun i _=>by dsimp only; rw [Nat.zero_add]⟩
  dsimp only
  cases hc:consR ⟨p,bs,rs⟩ a b
  ·repeat' (first|refine vz ?_|(conv=>whnf); first|with_reducible first|refine Sp.mk ?_ ?_|refine br_d (fun _=>?_) fun _=>?_|refine vM (fun _=>?_) fun _=>?_)
   refine ⟨_,?_,h ⟨p,bs,rs⟩ false (fun q=>(by cases q)) (fun q=>(made_2n q2 hc))⟩
   repeat' ((conv=>whnf); first|with_reducible exact True.intro|exact vW|with_reducible refine And.intro ?_ ?_)
   all_goals first|exact Chk.mk ⟨rfl,fun i _=>by dsimp only; rw [Nat.zero_add]⟩|exact Chk.mk y2
  ·have hr:=consR_in hc
   dsimp only at hr
   have y3:=ext_set (x:=w) hr.2
   repeat' (first|refine vz ?_|(conv=>whnf); first|with_reducible first|refine Sp.mk ?_ ?_|refine br_d (fun _=>?_) fun _=>?_|refine vM (fun _=>?_) fun _=>?_)
   refine ⟨_,?_,h ⟨p,bs,rs.set a.toNat w⟩ true (fun q=>(made_2 (x:=⟨p,bs,rs⟩) q2 hc).symm) (fun q=>(by cases q))⟩
   repeat' ((conv=>whnf); first|with_reducible exact True.intro|exact vW|with_reducible refine And.intro ?_ ?_)
   all_goals first|exact Chk.mk ⟨rfl,fun i _=>by dsimp only; rw [Nat.zero_add]⟩|exact Chk.mk y3
 ·rename_i q0 q1 q2 q3
  refine ⟨⟨⟨p,bs,rs⟩,a,b⟩,?_,⟨hI,hO,h2,h3⟩,?_⟩
  ·repeat' ((conv=>whnf); first|with_reducible exact True.intro|exact vW|with_reducible refine And.intro ?_ ?_)
   all_goals exact Chk.mk ⟨rfl,fun i _=>by dsimp only; rw [Nat.zero_add]⟩
  dsimp only
  cases hc:consR ⟨p,bs,rs⟩ a b
  ·repeat' (first|refine vz ?_|(conv=>whnf); first|with_reducible first|refine Sp.mk ?_ ?_|refine br_d (fun _=>?_) fun _=>?_|refine vM (fun _=>?_) fun _=>?_)
   refine ⟨_,?_,h ⟨p,bs,rs⟩ false (fun q=>(by cases q)) (fun q=>(made_3n q3 fun g=>by rw [hc] at g; cases g.2))⟩
   repeat' ((conv=>whnf); first|with_reducible exact True.intro|exact vW|with_reducible refine And.intro ?_ ?_)
   all_goals first|exact Chk.mk ⟨rfl,fun i _=>by dsimp only; rw [Nat.zero_add]⟩|exact Chk.mk y2
  ·have hr:=consR_in hc
   dsimp only at hr
   repeat' (first|refine vz ?_|(conv=>whnf); first|with_reducible first|refine Sp.mk ?_ ?_|refine br_d (fun _=>?_) fun _=>?_|refine vM (fun _=>?_) fun _=>?_)
   refine ⟨_,_,[4],[],rfl,?_,?_,⟨rs,a.toNat⟩,rfl,rfl,⟨hr.2⟩,?_⟩
   ·repeat' ((conv=>whnf); first|with_reducible exact True.intro|exact vW|with_reducible refine And.intro ?_ ?_)
    all_goals exact Chk.mk (by dsimp only; omega)
   ·exact wq
   dsimp only
   have y4:rs.length-1=(rs.take a.toNat ++ rs.drop (a.toNat+1)).length∧∀ i,i<rs.length-1→(fun i=>encS ((rs.take a.toNat ++ rs.drop (a.toNat+1)).getD i ⟨#[]⟩)) (0+i)=encS ((rs.take a.toNat ++ rs.drop (a.toNat+1)).getD i ⟨#[]⟩):=⟨by rw [List.length_append,List.length_take,List.length_drop]; omega,fun i _=>by dsimp only; rw [Nat.zero_add]⟩
   repeat' (first|refine vz ?_|(conv=>whnf); first|with_reducible first|refine Sp.mk ?_ ?_|refine br_d (fun _=>?_) fun _=>?_|refine vM (fun _=>?_) fun _=>?_)
   refine Dr.mk ⟨(.rd 0 (.rd 1 (.rd 2 (.rd 3 (.ef 4 (.rd 5 .dn) .no))))),by decide +kernel,?_⟩
   repeat' (first|refine vz ?_|(conv=>whnf); first|with_reducible first|refine Sp.mk ?_ ?_|refine br_d (fun _=>?_) fun _=>?_|refine vM (fun _=>?_) fun _=>?_)
   by_cases hw:w=⟨#[]⟩
   ·rw [decide_eq_true hw]
    refine ⟨_,?_,h ⟨p,bs,rs.take a.toNat ++ rs.drop (a.toNat+1)⟩ true (fun q=>(made_3 (x:=⟨p,bs,rs⟩) q3 hw hc).symm) (fun q=>(by cases q))⟩
    repeat' ((conv=>whnf); first|with_reducible exact True.intro|exact vW|with_reducible refine And.intro ?_ ?_)
    all_goals first|exact Chk.mk ⟨rfl,fun i _=>by dsimp only; rw [Nat.zero_add]⟩|exact Chk.mk y4
   ·rw [decide_eq_false hw]
    refine ⟨_,?_,h ⟨p,bs,rs.take a.toNat ++ rs.drop (a.toNat+1)⟩ false (fun q=>(by cases q)) (fun q=>(made_3n (x:=⟨p,bs,rs⟩) q3 fun g=>hw g.1))⟩
    repeat' ((conv=>whnf); first|with_reducible exact True.intro|exact vW|with_reducible refine And.intro ?_ ?_)
    all_goals first|exact Chk.mk ⟨rfl,fun i _=>by dsimp only; rw [Nat.zero_add]⟩|exact Chk.mk y4
 ·rename_i q0 q1 q2 q3
  refine ⟨_,?_,h ⟨p,bs,rs⟩ false (fun q=>(by cases q)) (fun q=>(made_n q0 q1 q2 q3))⟩
  repeat' ((conv=>whnf); first|with_reducible exact True.intro|exact vW|with_reducible refine And.intro ?_ ?_)
  all_goals first|exact Chk.mk ⟨rfl,fun i _=>by dsimp only; rw [Nat.zero_add]⟩|exact Chk.mk y1
end Go.Proofs.YtgdbhjmpkkbnnaaGreatDoor.Vc
end
section
/- Part XK: a deed at a desk, by the implementation. -/
namespace Go.Proofs.YtgdbhjmpkkbnnaaGreatDoor.Vc
open Go.Proofs
set_option maxRecDepth 10000
set_option maxHeartbeats 4000000
def C261:GC:=conG (X:=Desk) (fun d=>[enDe d]) (fun _=>[]) shortD fun d K=>K (deG d) [psO d.past]
theorem F261:GG 56 C261:=by
 refine fitG [(99,C157)] (by simp only [List.mem_cons,List.not_mem_nil,or_false]; rintro _ rfl <;> first|exact F157) [] (by simp) Tryz.f56 ⟨rfl,by decide +kernel,by decide +kernel⟩ (by intro x K K2 hk h; (try dsimp only at h ⊢); intros; apply hk; first|exact h|(apply h <;> assumption)) ?_
 rintro ⟨⟨p,bs,rs⟩,l⟩ K ⟨h1,h2,h3⟩ h
 refine ⟨Nat.le_of_ble_eq_true rfl,?_⟩
 unfold deG psO at h
 dsimp only [enDe,deC] at h h1 h2 h3 ⊢
 repeat' (first|refine vz ?_|(conv=>whnf); first|with_reducible first|refine Sp.mk ?_ ?_|refine br_d (fun _=>?_) fun _=>?_|refine vM (fun _=>?_) fun _=>?_)
 refine ⟨⟨p,bs,rs⟩,?_,⟨h1⟩,?_⟩
 ·exact wq
 dsimp only [enPl,plC]
 repeat' (first|refine vz ?_|(conv=>whnf); first|with_reducible first|refine Sp.mk ?_ ?_|refine br_d (fun _=>?_) fun _=>?_|refine vM (fun _=>?_) fun _=>?_)
 refine Lp.mk ⟨Nat,fun i=>[(1,.ptr 0 0),(2,.ptr 1 0),(3,.ptr 2 0),(11,slP l),(12,.int .i64 l.length),(13,.int .i64 i)],fun i=>[.box (deC ⟨⟨p,bs,rs⟩,l⟩),.box [.int .i64 0,.nils,.nils,.nils],.box [.int .i64 p,slI bs,slS rs,.row 3 3 0 (l.take i).length],psO (l.take i)],fun i=>i≤l.length,fun i=>l.length-i,⟨0,Nat.zero_le _,⟨⟨[some 0,some 1,some 2,none],[],rfl,rfl,?_,?_⟩⟩⟩,?_⟩
 ·exact wq
 ·exact wq
 intro i i1
 dsimp only [deC,psO]
 have hti:(l.take i).length≤100000:=by rw [List.length_take]; omega
 repeat' (first|refine vz ?_|(conv=>whnf); first|with_reducible first|refine Sp.mk ?_ ?_|refine br_d (fun _=>?_) fun _=>?_|refine vM (fun _=>?_) fun _=>?_)
 ·rename_i hi
  have hi:i<l.length:=by omega
  have hsn:l.take (i+1)=l.take i ++ [l.getD i default]:=take_succ' default hi
  refine Dr.mk ⟨(.rd 0 (.rd 1 (.rd 2 (.ef 3 (.ef 4 (.ef 5 (.rd 6 (.ef 7 .dn .no)) .no) .no) .no)))),by decide +kernel,?_⟩
  repeat' (first|refine vz ?_|(conv=>whnf); first|with_reducible first|refine Sp.mk ?_ ?_|refine br_d (fun _=>?_) fun _=>?_|refine vM (fun _=>?_) fun _=>?_)
  all_goals
   refine ⟨l.getD i default,?_,⟨h3 _ (getD_mem' hi)⟩,?_⟩
   ·exact wq
   dsimp only [enPl,plC]
   repeat' (first|refine vz ?_|(conv=>whnf); first|with_reducible first|refine Sp.mk ?_ ?_|refine br_d (fun _=>?_) fun _=>?_|refine vM (fun _=>?_) fun _=>?_)
  all_goals
   refine ⟨i+1,by omega,by omega,?_⟩
   first|(refine ⟨⟨[some 0,some 1,some 2,some 6],[],rfl,rfl,?_,?_⟩⟩ <;> (repeat' ((conv=>whnf); first|with_reducible exact True.intro|exact vW|with_reducible refine And.intro ?_ ?_|exact Chk.mk ⟨rfl,by rw [hsn,List.length_append]; rfl⟩|exact Chk.mk (by rw [hsn]; exact ext_push (enc:=plC) (d:=default) (l:=l.take i) (x:=l.getD i default) rfl))) <;> fail)|(refine ⟨⟨[some 0,some 1,some 2,some 5],[],rfl,rfl,?_,?_⟩⟩ <;> (repeat' ((conv=>whnf); first|with_reducible exact True.intro|exact vW|with_reducible refine And.intro ?_ ?_|exact Chk.mk ⟨rfl,by rw [hsn,List.length_append]; rfl⟩|exact Chk.mk (by rw [hsn]; exact ext_push (enc:=plC) (d:=default) (l:=l.take i) (x:=l.getD i default) rfl))) <;> fail)|(refine ⟨⟨[some 0,some 1,some 2,some 4],[],rfl,rfl,?_,?_⟩⟩ <;> (repeat' ((conv=>whnf); first|with_reducible exact True.intro|exact vW|with_reducible refine And.intro ?_ ?_|exact Chk.mk ⟨rfl,by rw [hsn,List.length_append]; rfl⟩|exact Chk.mk (by rw [hsn]; exact ext_push (enc:=plC) (d:=default) (l:=l.take i) (x:=l.getD i default) rfl))) <;> fail)
 ·rename_i hi
  rw [List.take_of_length_le (by omega)]
  repeat' (first|refine vz ?_|(conv=>whnf); first|with_reducible first|refine Sp.mk ?_ ?_|refine br_d (fun _=>?_) fun _=>?_|refine vM (fun _=>?_) fun _=>?_)
  refine ⟨_,_,[some 3],[],rfl,rfl,?_,?_,h⟩
  ·exact wq
  ·exact wq
theorem doD_back0 {d:Desk} (h:d.past.length=0):doD d backD=none:=by
 unfold doD
 rw [if_neg (by omega),show madeP d.now backD=default from made_n (by decide) (by decide) (by decide) (by decide),if_neg fun q=>no_place q.1]
theorem doD_back1 {d:Desk} (h:0<d.past.length):doD d backD=some ⟨d.past.getD (d.past.length-1) default,d.past.take (d.past.length-1)⟩:=if_pos ⟨rfl,h⟩
theorem doD_bad {d:Desk} {a:Dd} (ha:a≠backD) (h:¬ placeOk (madeP d.now a)):doD d a=none:=by
 unfold doD
 rw [if_neg fun q=>ha q.1,if_neg fun q=>h q.1]
theorem doD_same {d:Desk} {a:Dd} (ha:a≠backD) (h:madeP d.now a=d.now):doD d a=none:=by
 unfold doD
 rw [if_neg fun q=>ha q.1,h,if_neg fun q=>q.2 rfl]
theorem doD_new {d:Desk} {a:Dd} (ha:a≠backD) (hO:placeOk d.now) (h:placeOk (madeP d.now a)) (hn:madeP d.now a≠d.now):doD d a=some ⟨madeP d.now a,pushP d.past d.now⟩:=by
 unfold doD
 rw [if_neg fun q=>ha q.1,if_pos ⟨h,fun e=>hn (plT_inj h hO (by unfold ptext at e; rwa [if_pos h,if_pos hO] at e))⟩]
theorem takeP_get {L:List Place} {n i:Nat} (h:i<n):(L.take n).getD i default=L.getD i default:=by
 rw [List.getD_eq_getElem?_getD,List.getD_eq_getElem?_getD,List.getElem?_take_of_lt h]
theorem takeP_ext {l:List Place} {n:Nat} (hn:n≤l.length):(l.take n).length=n-Int.toNat 0∧∀ i,i<(l.take n).length→plC ((l.take n).getD i default)=plC (l.getD (Int.toNat 0+i) default):=⟨by rw [List.length_take]; show _=n-0; omega,fun i hi=>by
 rw [List.length_take] at hi
 rw [takeP_get (by omega)]
 show _=plC (l.getD (0+i) default)
 rw [Nat.zero_add]⟩
theorem pushP_ext {l:List Place} {x:Place} {g:Nat→List AV} (hg:g 0=plC x) (h:l.length+1 > 8):(pushP l x).length=((l.length+1:Nat):Int).toNat-Int.toNat 1∧∀ i,i<(pushP l x).length→plC ((pushP l x).getD i default)=appF l.length (fun i=>plC (l.getD i default)) g (0+Int.toNat 1+i):=by
 have e:pushP l x=(l ++ [x]).drop 1:=if_pos (by rw [List.length_append]; exact h)
 have:=ext_dropV (enc:=plC) (d:=default) (l:=l) (x:=x) (g:=g) hg
 rw [e]
 exact ⟨this.1.symm,fun i hi=>(this.2 i (by rw [this.1]; exact hi)).symm⟩
theorem pushP_ext' {l:List Place} {x:Place} {g:Nat→List AV} (hg:g 0=plC x) (h:¬ l.length+1 > 8):(pushP l x).length=l.length+1∧∀ i,i<(pushP l x).length→plC ((pushP l x).getD i default)=appF l.length (fun i=>plC (l.getD i default)) g (0+i):=by
 have e:pushP l x=l ++ [x]:=if_neg (by rw [List.length_append]; exact h)
 have:=ext_push (enc:=plC) (d:=default) (l:=l) (x:=x) (g:=g) hg
 rw [e]
 exact ⟨this.1,fun i hi=>by rw [Nat.zero_add]; exact this.2 i hi⟩
end Go.Proofs.YtgdbhjmpkkbnnaaGreatDoor.Vc
end
section
/- Part XC: deeds that are read, by both sides. -/
namespace Go.Proofs.YtgdbhjmpkkbnnaaGreatDoor.Vc
open Go.Proofs
set_option maxRecDepth 10000
set_option maxHeartbeats 4000000
/-! ### slices.Index -/
def C264:List AV→(AV→Prop)→Prop:=con (X:=List ByteArray × ByteArray) (fun x=>[slS x.1,.str x.2]) (fun x=>x.1.length<9223372036854775808) fun x K=>ixpost x.1.length (fun i=>x.1.getD i ⟨#[]⟩=x.2) K
theorem F264:FF 124 C264:=by
 refine fitX [] (by simp) [] (by simp) Tryz.f124 ⟨rfl,by decide +kernel,by decide +kernel⟩ (fun _ _ _ hk h i h1 h2 h3 h4=>hk _ (h i h1 h2 h3 h4)) ?_
 rintro ⟨l,x⟩ K h1 h
 refine ⟨Nat.le_of_ble_eq_true rfl,?_⟩
 dsimp only at h h1 ⊢
 repeat' (first|refine vz ?_|(conv=>whnf); first|with_reducible first|refine Sp.mk ?_ ?_|refine br_d (fun _=>?_) fun _=>?_|refine vM (fun _=>?_) fun _=>?_)
 refine Lp.mk ⟨Nat,fun i=>[(0,slS l),(1,.str x),(7,.int .i64 l.length),(8,.int .i64 i)],fun _=>[],fun i=>i≤l.length∧∀ j,j<i→l.getD j ⟨#[]⟩≠x,fun i=>l.length-i,⟨0,⟨Nat.zero_le _,fun j hj=>absurd hj (Nat.not_lt_zero _)⟩,⟨⟨[],[],rfl,rfl,?_,?_⟩⟩⟩,?_⟩
 ·exact wq
 ·exact wq
 rintro i ⟨i1,i2⟩
 dsimp only
 repeat' (first|refine vz ?_|(conv=>whnf); first|with_reducible first|refine Sp.mk ?_ ?_|refine br_d (fun _=>?_) fun _=>?_|refine vM (fun _=>?_) fun _=>?_)
 ·rename_i hi he
  replace he:x=l.getD i ⟨#[]⟩:=he
  exact h i (by omega) (by omega) (fun e=>by omega) (fun _=>he.symm)
 ·rename_i hi he
  replace he:¬ x=l.getD i ⟨#[]⟩:=he
  refine ⟨i+1,⟨by omega,fun j hj=>?_⟩,by omega,⟨⟨[],[],rfl,rfl,?_,?_⟩⟩⟩
  ·by_cases e:j=i
   ·subst e; exact fun q=>he q.symm
   ·exact i2 j (by omega)
  ·exact wq
  ·exact wq
 ·rename_i hi
  exact h (-1) (by omega) (by omega) (fun _ j hj=>i2 j (by omega)) (fun e=>absurd e (by decide))
/-! ### The implementation's -/
theorem wordsOf_kind {x:Dd} (h:okDd x):(wordsOf x=[]∧x.words=⟨#[]⟩∧(x.kind=0∨x.kind=3∨x.kind=4))∨(wordsOf x=[x.words]∧x.words≠⟨#[]⟩∧(x.kind=1∨x.kind=2)):=by
 unfold wordsOf
 rcases h.k with q|q|q|q|q
 ·exact .inl ⟨if_pos q.2.2,q.2.2,.inl q.1⟩
 ·have:=(plainW_no q.2.2.2).1
  exact .inr ⟨if_neg this,this,.inl q.1⟩
 ·have:=(plainW_no q.2).1
  exact .inr ⟨if_neg this,this,.inr q.1⟩
 ·exact .inl ⟨if_pos q.2,q.2,.inr (.inl q.1)⟩
 ·exact .inl ⟨if_pos q.2.2.2,q.2.2.2,.inr (.inr q.1)⟩
theorem num_nat {n:Int} (h:0≤n∧n≤99):∃ m:Nat,m<1000000∧num n=num (m:Int)∧n=m:=⟨n.toNat,by omega,by rw [Int.toNat_of_nonneg h.1],by omega⟩
theorem numsOf_ab {x:Dd} (h:okDd x):(numsOf x).length≤2∧((numsOf x).length<1→x.a=0)∧((numsOf x).length<2→x.b=0)∧(1≤(numsOf x).length→(numsOf x).getD 0 0=x.a)∧(2≤(numsOf x).length→(numsOf x).getD 1 0=x.b):=by
 unfold numsOf
 rcases h.k with q|q|q|q|q
 ·rw [if_pos q.1]
  exact ⟨by simp,fun h=>absurd h (by simp),fun _=>q.2.1,fun _=>rfl,fun h=>absurd h (by simp)⟩
 ·rw [if_neg (by omega),if_neg (by omega)]
  exact ⟨by simp,fun _=>q.2.1,fun _=>q.2.2.1,fun h=>absurd h (by simp),fun h=>absurd h (by simp)⟩
 ·rw [if_neg (by omega),if_pos (.inl q.1)]
  exact ⟨by simp,fun h=>absurd h (by simp),fun h=>absurd h (by simp),fun _=>rfl,fun _=>rfl⟩
 ·rw [if_neg (by omega),if_pos (.inr q.1)]
  exact ⟨by simp,fun h=>absurd h (by simp),fun h=>absurd h (by simp),fun _=>rfl,fun _=>rfl⟩
 ·rw [if_neg (by omega),if_neg (by omega)]
  exact ⟨by simp,fun _=>q.2.1,fun _=>q.2.2.1,fun h=>absurd h (by simp),fun h=>absurd h (by simp)⟩
theorem kinds5 (z:List AV):∀ i,i<5→[[AV.str ⟨#[98,111,100,121]⟩],[.str ⟨#[114,117,108,101]⟩],[.str ⟨#[97,109,101,110,100]⟩],[.str ⟨#[100,114,111,112]⟩],[.str ⟨#[98,97,99,107]⟩]].getD (0+i) z=encS ([kindB 0,kindB 1,kindB 2,kindB 3,kindB 4].getD i ⟨#[]⟩):=fun i hi=>by
 rcases (show i=0∨i=1∨i=2∨i=3∨i=4 by omega) with rfl|rfl|rfl|rfl|rfl <;> rfl
theorem rd_k {x:Dd} {L:List ByteArray} {k:Int} (hL:L=kindB x.kind :: ((numsOf x).map num ++ wordsOf x)) (h:okDd x) (hk:kindB k=L.getD 0 ⟨#[]⟩) (h0:0≤k∧k≤4):x.kind=k:=by
 rw [hL] at hk
 exact (kindB_inj h0 (okDd_kind h) hk).symm
theorem rd_w0 {x:Dd} {L:List ByteArray} (hL:L=kindB x.kind :: ((numsOf x).map num ++ wordsOf x)) (h:okDd x) (hk:x.kind=0∨x.kind=3∨x.kind=4):x.words=⟨#[]⟩∧L.drop 1=(numsOf x).map num:=by
 rcases wordsOf_kind h with ⟨q1,q2,_⟩|⟨_,_,q3⟩
 ·refine ⟨q2,?_⟩
  rw [hL,q1,List.append_nil]
  rfl
 ·omega
theorem rd_w1 {x:Dd} {L:List ByteArray} (hL:L=kindB x.kind :: ((numsOf x).map num ++ wordsOf x)) (h:okDd x) (hk:x.kind=1∨x.kind=2):x.words≠⟨#[]⟩∧L.getD (L.length-1) ⟨#[]⟩=x.words∧(L.drop 1).take (L.length-2)=(numsOf x).map num:=by
 rcases wordsOf_kind h with ⟨_,_,q3⟩|⟨q1,q2,_⟩
 ·omega
 ·rw [q1] at hL
  have hlen:L.length=(numsOf x).length+2:=by rw [hL]; simp only [List.length_cons,List.length_append,List.length_map,List.length_nil]
  refine ⟨q2,?_,?_⟩
  ·rw [hlen,hL,show (numsOf x).length+2-1=(numsOf x).length+1 by omega,List.getD_cons_succ,List.getD_eq_getElem?_getD,List.getElem?_append_right (by rw [List.length_map]; exact Nat.le_refl _),List.length_map,Nat.sub_self]
   rfl
  ·rw [hlen,hL,show (numsOf x).length+2-2=(numsOf x).length by omega]
   show ((numsOf x).map num ++ [x.words]).take _=_
   rw [← List.length_map (f:=num),List.take_left]
theorem cnt_of {x:Dd} {L:List ByteArray} (hL:L=kindB x.kind :: ((numsOf x).map num ++ wordsOf x)) (h:okDd x):(x.kind=0→L.length=2)∧(x.kind=1→L.length=2)∧(x.kind=2→L.length=4)∧(x.kind=3→L.length=3)∧(x.kind=4→L.length=1):=by
 have hl:L.length=1+((numsOf x).length+(wordsOf x).length):=by rw [hL]; simp only [List.length_cons,List.length_append,List.length_map]; omega
 have hn:(x.kind=0→(numsOf x).length=1)∧(x.kind=2→(numsOf x).length=2)∧(x.kind=3→(numsOf x).length=2)∧(x.kind=1→(numsOf x).length=0)∧(x.kind=4→(numsOf x).length=0):=by
  unfold numsOf
  refine ⟨fun e=>?_,fun e=>?_,fun e=>?_,fun e=>?_,fun e=>?_⟩
  ·rw [if_pos e]; rfl
  ·rw [if_neg (by omega),if_pos (.inl e)]; rfl
  ·rw [if_neg (by omega),if_pos (.inr e)]; rfl
  ·rw [if_neg (by omega),if_neg (by omega)]; rfl
  ·rw [if_neg (by omega),if_neg (by omega)]; rfl
 rcases wordsOf_kind h with ⟨q1,_,q3⟩|⟨q1,_,q3⟩
 ·rw [q1] at hl
  simp only [List.length_nil] at hl
  omega
 ·rw [q1] at hl
  simp only [List.length_cons,List.length_nil] at hl
  omega
structure RdN (s:ByteArray) (k:Int) (W:ByteArray) (N:List ByteArray):Prop where
 k0:0≤k
 k4:k≤4
 ne:s≠⟨#[]⟩
 ws:W.size≤s.size
 nl:N.length≤3
 ns:∀ y∈N,y.size≤s.size
 x:∀ x,isDd s x→x.kind=k∧x.words=W∧N=(numsOf x).map num
theorem dropW_ext {L:List ByteArray} {n:Nat} (h:n=L.length):(L.drop 1).length=n-Int.toNat 1∧∀ i,i<(L.drop 1).length→encS ((L.drop 1).getD i ⟨#[]⟩)=encS (L.getD (Int.toNat 1+i) ⟨#[]⟩):=⟨by rw [List.length_drop,h]; rfl,fun i _=>by
 rw [List.getD_eq_getElem?_getD,List.getElem?_drop,← List.getD_eq_getElem?_getD]
 rfl⟩
theorem takeW_ext {L:List ByteArray} {n:Nat} (h:n=L.length-1) (h2:2≤L.length):((L.drop 1).take (L.length-2)).length=n-Int.toNat 1∧∀ i,i<((L.drop 1).take (L.length-2)).length→encS (((L.drop 1).take (L.length-2)).getD i ⟨#[]⟩)=encS (L.getD (Int.toNat 1+i) ⟨#[]⟩):=⟨by rw [List.length_take,List.length_drop,h]; show _=L.length-1-1; omega,fun i hi=>by
 rw [List.length_take,List.length_drop] at hi
 rw [List.getD_eq_getElem?_getD,List.getElem?_take_of_lt (by omega),List.getElem?_drop,← List.getD_eq_getElem?_getD]
 rfl⟩
def C258:List AV→(AV→Prop)→Prop:=con (X:=ByteArray) (fun s=>[.str s]) (fun s=>s.size≤1048576) ddPost
theorem F258:FF 92 C258:=by
 refine fitX [(123,C211),(124,C264),(125,C213),(126,C103)] (by simp only [List.mem_cons,List.not_mem_nil,or_false]; rintro _ (rfl|rfl|rfl|rfl) <;> first|exact F211|exact F264|exact F213|exact F103) [] (by simp) Tryz.f92 ⟨rfl,by decide +kernel,by decide +kernel⟩ (fun _ _ _ hk h=>h.mono hk) ?_
 rintro s K hs ⟨h,hno⟩
 refine ⟨Nat.le_of_ble_eq_true rfl,?_⟩
 repeat' (first|refine vz ?_|(conv=>whnf); first|with_reducible first|refine Sp.mk ?_ ?_|refine br_d (fun _=>?_) fun _=>?_|refine vM (fun _=>?_) fun _=>?_)
 refine ⟨(s,32),?_,⟨by dsimp only; omega⟩,?_⟩
 ·exact wq
 obtain ⟨L,hL⟩:∃ L,cutB s 32=L:=⟨_,rfl⟩
 have hl:=cutB_len s 32
 have hlm:∀ x∈L,x.size≤s.size:=fun x hx=>cutB_mem (c:=32) (hL ▸ hx)
 have hX:∀ x,isDd s x→L=kindB x.kind :: ((numsOf x).map num ++ wordsOf x):=fun x q=>hL ▸ isDd_cut q
 have hsne:∀ k,kindB k=L.getD 0 ⟨#[]⟩→s≠⟨#[]⟩:=fun k q e=>by
  rw [e,empty_cut] at hL
  rw [← hL] at q
  have:=(kindB_no k).2.2
  rw [q] at this
  exact this rfl
 dsimp only
 rw [hL] at hl ⊢
 repeat' (first|refine vz ?_|(conv=>whnf); first|with_reducible first|refine Sp.mk ?_ ?_|refine br_d (fun _=>?_) fun _=>?_|refine vM (fun _=>?_) fun _=>?_)
 refine ⟨([kindB 0,kindB 1,kindB 2,kindB 3,kindB 4],L.getD 0 ⟨#[]⟩),?_,⟨show (5:Nat)<_ by decide⟩,?_⟩
 ·repeat' ((conv=>whnf); first|with_reducible exact True.intro|exact vW|with_reducible refine And.intro ?_ ?_)
  all_goals exact Chk.mk ⟨rfl,kinds5 _⟩
 intro i g1 g2 g3 g4
 dsimp only at g3 g4 ⊢
 have g2':i<5:=g2
 have hee:(⟨#[]⟩:ByteArray)=⟨#[]⟩:=rfl
 apply later
 ·intro key
  rcases (show i=-1∨i=0∨i=1∨i=2∨i=3∨i=4 by omega) with rfl|rfl|rfl|rfl|rfl|rfl
  ·repeat' (first|refine vz ?_|(conv=>whnf); first|with_reducible first|refine Sp.mk ?_ ?_|refine br_d (fun _=>?_) fun _=>?_|refine vM (fun _=>?_) fun _=>?_)
   refine hno fun ⟨x,q⟩=>?_
   have e:=hX x q
   have hk:=okDd_kind q.1
   have:=g3 rfl x.kind.toNat (by show _<5; omega)
   rw [e] at this
   refine this ?_
   show [kindB 0,kindB 1,kindB 2,kindB 3,kindB 4].getD x.kind.toNat ⟨#[]⟩=kindB x.kind
   rcases (show x.kind=0∨x.kind=1∨x.kind=2∨x.kind=3∨x.kind=4 by omega) with r|r|r|r|r <;> rw [r] <;> rfl
  ·replace g4:kindB 0=L.getD 0 ⟨#[]⟩:=g4 (by decide)
   have hxk:∀ x,isDd s x→x.kind=0:=fun x q=>rd_k (hX x q) q.1 g4 (by decide)
   have hx0:∀ x,isDd s x→x.words=⟨#[]⟩∧L.drop 1=(numsOf x).map num:=fun x q=>rd_w0 (hX x q) q.1 (by have:=hxk x q; omega)
   repeat' ((conv=>whnf); first|with_reducible refine wk_at 13 ?_|with_reducible refine wk_at1 13 ?_|with_reducible refine wk_at2 13 ?_|refine vA ?_|with_reducible first|refine v8 ?_|refine Ch.l ?_|refine Sp.mk ?_ ?_|refine vS ?_|refine vR ?_|refine vB ?_|refine br_nt ?_|refine br_tt ?_|refine br_ff ?_|refine vP ?_|refine vQ ?_|refine vT ?_|refine vF ?_|refine br_and ?_|refine br_or ?_|refine br_d (fun _=>?_) fun _=>?_|refine vM (fun _=>?_) fun _=>?_)
   ·rename_i q1
    have hR:RdN s 0 ⟨#[]⟩ (L.drop 1):=⟨by decide,by decide,hsne _ g4,(Nat.zero_le _),(by rw [List.length_drop]; omega),(fun y hy=>hlm y (List.mem_of_mem_drop hy)),fun x q=>⟨hxk x q,(hx0 x q).1.symm ▸ rfl,(hx0 x q).2⟩⟩
    obtain ⟨k,hk⟩:∃ k:Int,k=0:=⟨_,rfl⟩
    obtain ⟨W,hW⟩:∃ W:ByteArray,W=⟨#[]⟩:=⟨_,rfl⟩
    obtain ⟨N,hN⟩:∃ N:List ByteArray,N=(L.drop 1):=⟨_,rfl⟩
    have hNe:=(dropW_ext (L:=L) rfl)
    refine ⟨Wk.go [(0,.str s),(2,.ptr 0 0),(8,.ptr 1 0),(9,slS N)] [.box [.int .i64 0,.int .i64 0,.int .i64 0,.str ⟨#[]⟩],.box [.int .i64 k,.int .i64 0,.int .i64 0,.str W]] ⟨⟨[some 0,some 3],[],rfl,rfl,?_,?_⟩⟩ ?_⟩
    ·subst hN
     repeat' ((conv=>whnf); first|with_reducible exact True.intro|exact vW|with_reducible refine And.intro ?_ ?_)
     all_goals exact Chk.mk hNe
    ·subst hW hk
     repeat' ((conv=>whnf); first|with_reducible exact True.intro|exact vW|with_reducible refine And.intro ?_ ?_)
    rw [← hk,← hW,← hN] at hR
    clear hk hW hN hNe
    revert k W N
    exact key.t
   ·rename_i q1
    exact hno fun ⟨x,q⟩=>by have:=cnt_of (hX x q) q.1; have:=hxk x q; omega
  ·replace g4:kindB 1=L.getD 0 ⟨#[]⟩:=g4 (by decide)
   have hxk:∀ x,isDd s x→x.kind=1:=fun x q=>rd_k (hX x q) q.1 g4 (by decide)
   have hx1:∀ x,isDd s x→x.words≠⟨#[]⟩∧L.getD (L.length-1) ⟨#[]⟩=x.words∧(L.drop 1).take (L.length-2)=(numsOf x).map num:=fun x q=>rd_w1 (hX x q) q.1 (by have:=hxk x q; omega)
   have hlast:((L.length:Int)-1).toNat=L.length-1:=by omega
   have hlw:(L.getD (L.length-1) ⟨#[]⟩).size≤s.size:=hlm _ (getD_mem' (by omega))
   repeat' ((conv=>whnf); first|with_reducible refine wk_at 13 ?_|with_reducible refine wk_at1 13 ?_|with_reducible refine wk_at2 13 ?_|refine vA ?_|with_reducible first|refine v8 ?_|refine Ch.l ?_|refine Sp.mk ?_ ?_|refine vS ?_|refine vR ?_|refine vB ?_|refine br_nt ?_|refine br_tt ?_|refine br_ff ?_|refine vP ?_|refine vQ ?_|refine vT ?_|refine vF ?_|refine br_and ?_|refine br_or ?_|refine br_d (fun _=>?_) fun _=>?_|refine vM (fun _=>?_) fun _=>?_)
   ·rename_i q1 q2
    rw [hlast] at q2 ⊢
    have hR:RdN s 1 (L.getD (L.length-1) ⟨#[]⟩) (L.drop 1):=⟨by decide,by decide,hsne _ g4,hlw,(by rw [List.length_drop]; omega),(fun y hy=>hlm y (List.mem_of_mem_drop hy)),fun x q=>absurd ((hx1 x q).2.1.symm.trans q2) (hx1 x q).1⟩
    obtain ⟨k,hk⟩:∃ k:Int,k=1:=⟨_,rfl⟩
    obtain ⟨W,hW⟩:∃ W:ByteArray,W=(L.getD (L.length-1) ⟨#[]⟩):=⟨_,rfl⟩
    obtain ⟨N,hN⟩:∃ N:List ByteArray,N=(L.drop 1):=⟨_,rfl⟩
    have hNe:=(dropW_ext (L:=L) rfl)
    refine ⟨Wk.go [(0,.str s),(2,.ptr 0 0),(8,.ptr 1 0),(9,slS N)] [.box [.int .i64 0,.int .i64 0,.int .i64 0,.str ⟨#[]⟩],.box [.int .i64 k,.int .i64 0,.int .i64 0,.str W]] ⟨⟨[some 0,some 3],[],rfl,rfl,?_,?_⟩⟩ ?_⟩
    ·subst hN
     repeat' ((conv=>whnf); first|with_reducible exact True.intro|exact vW|with_reducible refine And.intro ?_ ?_)
     all_goals exact Chk.mk hNe
    ·subst hW hk
     repeat' ((conv=>whnf); first|with_reducible exact True.intro|exact vW|with_reducible refine And.intro ?_ ?_)
    rw [← hk,← hW,← hN] at hR
    clear hk hW hN hNe
    revert k W N
    exact key.t
   ·rename_i q1 q2
    rw [hlast] at q2 ⊢
    have hR:RdN s 1 (L.getD (L.length-1) ⟨#[]⟩) ((L.drop 1).take (L.length-2)):=⟨by decide,by decide,hsne _ g4,hlw,(by rw [List.length_take,List.length_drop]; omega),(fun y hy=>hlm y (List.mem_of_mem_drop (List.mem_of_mem_take hy))),fun x q=>⟨hxk x q,(hx1 x q).2.1.symm,(hx1 x q).2.2⟩⟩
    obtain ⟨k,hk⟩:∃ k:Int,k=1:=⟨_,rfl⟩
    obtain ⟨W,hW⟩:∃ W:ByteArray,W=(L.getD (L.length-1) ⟨#[]⟩):=⟨_,rfl⟩
    obtain ⟨N,hN⟩:∃ N:List ByteArray,N=((L.drop 1).take (L.length-2)):=⟨_,rfl⟩
    have hNe:=(takeW_ext (L:=L) rfl (by omega))
    refine ⟨Wk.go [(0,.str s),(2,.ptr 0 0),(8,.ptr 1 0),(9,slS N)] [.box [.int .i64 0,.int .i64 0,.int .i64 0,.str ⟨#[]⟩],.box [.int .i64 k,.int .i64 0,.int .i64 0,.str W]] ⟨⟨[some 0,some 3],[],rfl,rfl,?_,?_⟩⟩ ?_⟩
    ·subst hN
     repeat' ((conv=>whnf); first|with_reducible exact True.intro|exact vW|with_reducible refine And.intro ?_ ?_)
     all_goals exact Chk.mk hNe
    ·subst hW hk
     repeat' ((conv=>whnf); first|with_reducible exact True.intro|exact vW|with_reducible refine And.intro ?_ ?_)
    rw [← hk,← hW,← hN] at hR
    clear hk hW hN hNe
    revert k W N
    exact key.t
   ·rename_i q1
    exact hno fun ⟨x,q⟩=>by have:=cnt_of (hX x q) q.1; have:=hxk x q; omega
  ·replace g4:kindB 2=L.getD 0 ⟨#[]⟩:=g4 (by decide)
   have hxk:∀ x,isDd s x→x.kind=2:=fun x q=>rd_k (hX x q) q.1 g4 (by decide)
   have hx1:∀ x,isDd s x→x.words≠⟨#[]⟩∧L.getD (L.length-1) ⟨#[]⟩=x.words∧(L.drop 1).take (L.length-2)=(numsOf x).map num:=fun x q=>rd_w1 (hX x q) q.1 (by have:=hxk x q; omega)
   have hlast:((L.length:Int)-1).toNat=L.length-1:=by omega
   have hlw:(L.getD (L.length-1) ⟨#[]⟩).size≤s.size:=hlm _ (getD_mem' (by omega))
   repeat' ((conv=>whnf); first|with_reducible refine wk_at 13 ?_|with_reducible refine wk_at1 13 ?_|with_reducible refine wk_at2 13 ?_|refine vA ?_|with_reducible first|refine v8 ?_|refine Ch.l ?_|refine Sp.mk ?_ ?_|refine vS ?_|refine vR ?_|refine vB ?_|refine br_nt ?_|refine br_tt ?_|refine br_ff ?_|refine vP ?_|refine vQ ?_|refine vT ?_|refine vF ?_|refine br_and ?_|refine br_or ?_|refine br_d (fun _=>?_) fun _=>?_|refine vM (fun _=>?_) fun _=>?_)
   ·rename_i q1 q2
    rw [hlast] at q2 ⊢
    have hR:RdN s 2 (L.getD (L.length-1) ⟨#[]⟩) (L.drop 1):=⟨by decide,by decide,hsne _ g4,hlw,(by rw [List.length_drop]; omega),(fun y hy=>hlm y (List.mem_of_mem_drop hy)),fun x q=>absurd ((hx1 x q).2.1.symm.trans q2) (hx1 x q).1⟩
    obtain ⟨k,hk⟩:∃ k:Int,k=2:=⟨_,rfl⟩
    obtain ⟨W,hW⟩:∃ W:ByteArray,W=(L.getD (L.length-1) ⟨#[]⟩):=⟨_,rfl⟩
    obtain ⟨N,hN⟩:∃ N:List ByteArray,N=(L.drop 1):=⟨_,rfl⟩
    have hNe:=(dropW_ext (L:=L) rfl)
    refine ⟨Wk.go [(0,.str s),(2,.ptr 0 0),(8,.ptr 1 0),(9,slS N)] [.box [.int .i64 0,.int .i64 0,.int .i64 0,.str ⟨#[]⟩],.box [.int .i64 k,.int .i64 0,.int .i64 0,.str W]] ⟨⟨[some 0,some 3],[],rfl,rfl,?_,?_⟩⟩ ?_⟩
    ·subst hN
     repeat' ((conv=>whnf); first|with_reducible exact True.intro|exact vW|with_reducible refine And.intro ?_ ?_)
     all_goals exact Chk.mk hNe
    ·subst hW hk
     repeat' ((conv=>whnf); first|with_reducible exact True.intro|exact vW|with_reducible refine And.intro ?_ ?_)
    rw [← hk,← hW,← hN] at hR
    clear hk hW hN hNe
    revert k W N
    exact key.t
   ·rename_i q1 q2
    rw [hlast] at q2 ⊢
    have hR:RdN s 2 (L.getD (L.length-1) ⟨#[]⟩) ((L.drop 1).take (L.length-2)):=⟨by decide,by decide,hsne _ g4,hlw,(by rw [List.length_take,List.length_drop]; omega),(fun y hy=>hlm y (List.mem_of_mem_drop (List.mem_of_mem_take hy))),fun x q=>⟨hxk x q,(hx1 x q).2.1.symm,(hx1 x q).2.2⟩⟩
    obtain ⟨k,hk⟩:∃ k:Int,k=2:=⟨_,rfl⟩
    obtain ⟨W,hW⟩:∃ W:ByteArray,W=(L.getD (L.length-1) ⟨#[]⟩):=⟨_,rfl⟩
    obtain ⟨N,hN⟩:∃ N:List ByteArray,N=((L.drop 1).take (L.length-2)):=⟨_,rfl⟩
    have hNe:=(takeW_ext (L:=L) rfl (by omega))
    refine ⟨Wk.go [(0,.str s),(2,.ptr 0 0),(8,.ptr 1 0),(9,slS N)] [.box [.int .i64 0,.int .i64 0,.int .i64 0,.str ⟨#[]⟩],.box [.int .i64 k,.int .i64 0,.int .i64 0,.str W]] ⟨⟨[some 0,some 3],[],rfl,rfl,?_,?_⟩⟩ ?_⟩
    ·subst hN
     repeat' ((conv=>whnf); first|with_reducible exact True.intro|exact vW|with_reducible refine And.intro ?_ ?_)
     all_goals exact Chk.mk hNe
    ·subst hW hk
     repeat' ((conv=>whnf); first|with_reducible exact True.intro|exact vW|with_reducible refine And.intro ?_ ?_)
    rw [← hk,← hW,← hN] at hR
    clear hk hW hN hNe
    revert k W N
    exact key.t
   ·rename_i q1
    exact hno fun ⟨x,q⟩=>by have:=cnt_of (hX x q) q.1; have:=hxk x q; omega
  ·replace g4:kindB 3=L.getD 0 ⟨#[]⟩:=g4 (by decide)
   have hxk:∀ x,isDd s x→x.kind=3:=fun x q=>rd_k (hX x q) q.1 g4 (by decide)
   have hx0:∀ x,isDd s x→x.words=⟨#[]⟩∧L.drop 1=(numsOf x).map num:=fun x q=>rd_w0 (hX x q) q.1 (by have:=hxk x q; omega)
   repeat' ((conv=>whnf); first|with_reducible refine wk_at 13 ?_|with_reducible refine wk_at1 13 ?_|with_reducible refine wk_at2 13 ?_|refine vA ?_|with_reducible first|refine v8 ?_|refine Ch.l ?_|refine Sp.mk ?_ ?_|refine vS ?_|refine vR ?_|refine vB ?_|refine br_nt ?_|refine br_tt ?_|refine br_ff ?_|refine vP ?_|refine vQ ?_|refine vT ?_|refine vF ?_|refine br_and ?_|refine br_or ?_|refine br_d (fun _=>?_) fun _=>?_|refine vM (fun _=>?_) fun _=>?_)
   ·rename_i q1
    have hR:RdN s 3 ⟨#[]⟩ (L.drop 1):=⟨by decide,by decide,hsne _ g4,(Nat.zero_le _),(by rw [List.length_drop]; omega),(fun y hy=>hlm y (List.mem_of_mem_drop hy)),fun x q=>⟨hxk x q,(hx0 x q).1.symm ▸ rfl,(hx0 x q).2⟩⟩
    obtain ⟨k,hk⟩:∃ k:Int,k=3:=⟨_,rfl⟩
    obtain ⟨W,hW⟩:∃ W:ByteArray,W=⟨#[]⟩:=⟨_,rfl⟩
    obtain ⟨N,hN⟩:∃ N:List ByteArray,N=(L.drop 1):=⟨_,rfl⟩
    have hNe:=(dropW_ext (L:=L) rfl)
    refine ⟨Wk.go [(0,.str s),(2,.ptr 0 0),(8,.ptr 1 0),(9,slS N)] [.box [.int .i64 0,.int .i64 0,.int .i64 0,.str ⟨#[]⟩],.box [.int .i64 k,.int .i64 0,.int .i64 0,.str W]] ⟨⟨[some 0,some 3],[],rfl,rfl,?_,?_⟩⟩ ?_⟩
    ·subst hN
     repeat' ((conv=>whnf); first|with_reducible exact True.intro|exact vW|with_reducible refine And.intro ?_ ?_)
     all_goals exact Chk.mk hNe
    ·subst hW hk
     repeat' ((conv=>whnf); first|with_reducible exact True.intro|exact vW|with_reducible refine And.intro ?_ ?_)
    rw [← hk,← hW,← hN] at hR
    clear hk hW hN hNe
    revert k W N
    exact key.t
   ·rename_i q1
    exact hno fun ⟨x,q⟩=>by have:=cnt_of (hX x q) q.1; have:=hxk x q; omega
  ·replace g4:kindB 4=L.getD 0 ⟨#[]⟩:=g4 (by decide)
   have hxk:∀ x,isDd s x→x.kind=4:=fun x q=>rd_k (hX x q) q.1 g4 (by decide)
   have hx0:∀ x,isDd s x→x.words=⟨#[]⟩∧L.drop 1=(numsOf x).map num:=fun x q=>rd_w0 (hX x q) q.1 (by have:=hxk x q; omega)
   repeat' ((conv=>whnf); first|with_reducible refine wk_at 13 ?_|with_reducible refine wk_at1 13 ?_|with_reducible refine wk_at2 13 ?_|refine vA ?_|with_reducible first|refine v8 ?_|refine Ch.l ?_|refine Sp.mk ?_ ?_|refine vS ?_|refine vR ?_|refine vB ?_|refine br_nt ?_|refine br_tt ?_|refine br_ff ?_|refine vP ?_|refine vQ ?_|refine vT ?_|refine vF ?_|refine br_and ?_|refine br_or ?_|refine br_d (fun _=>?_) fun _=>?_|refine vM (fun _=>?_) fun _=>?_)
   ·rename_i q1
    have hR:RdN s 4 ⟨#[]⟩ (L.drop 1):=⟨by decide,by decide,hsne _ g4,(Nat.zero_le _),(by rw [List.length_drop]; omega),(fun y hy=>hlm y (List.mem_of_mem_drop hy)),fun x q=>⟨hxk x q,(hx0 x q).1.symm ▸ rfl,(hx0 x q).2⟩⟩
    obtain ⟨k,hk⟩:∃ k:Int,k=4:=⟨_,rfl⟩
    obtain ⟨W,hW⟩:∃ W:ByteArray,W=⟨#[]⟩:=⟨_,rfl⟩
    obtain ⟨N,hN⟩:∃ N:List ByteArray,N=(L.drop 1):=⟨_,rfl⟩
    have hNe:=(dropW_ext (L:=L) rfl)
    refine ⟨Wk.go [(0,.str s),(2,.ptr 0 0),(8,.ptr 1 0),(9,slS N)] [.box [.int .i64 0,.int .i64 0,.int .i64 0,.str ⟨#[]⟩],.box [.int .i64 k,.int .i64 0,.int .i64 0,.str W]] ⟨⟨[some 0,some 3],[],rfl,rfl,?_,?_⟩⟩ ?_⟩
    ·subst hN
     repeat' ((conv=>whnf); first|with_reducible exact True.intro|exact vW|with_reducible refine And.intro ?_ ?_)
     all_goals exact Chk.mk hNe
    ·subst hW hk
     repeat' ((conv=>whnf); first|with_reducible exact True.intro|exact vW|with_reducible refine And.intro ?_ ?_)
    rw [← hk,← hW,← hN] at hR
    clear hk hW hN hNe
    revert k W N
    exact key.t
   ·rename_i q1
    exact hno fun ⟨x,q⟩=>by have:=cnt_of (hX x q) q.1; have:=hxk x q; omega
 intro k W N hR
 obtain ⟨k0,k4,hne,ws,nl,ns,hx⟩:=hR
 have hxl:∀ x,isDd s x→(numsOf x).length=N.length:=fun x q=>by rw [(hx x q).2.2,List.length_map]
 have hxn:∀ x,isDd s x→∀ i,i<N.length→∃ m:Nat,m<1000000∧N.getD i ⟨#[]⟩=num (m:Int)∧(numsOf x).getD i 0=m:=fun x q i hi=>by
  have hl:=hxl x q
  have hm:=numsOf_mem q.1 _ (getD_mem' (l:=numsOf x) (i:=i) (d:=0) (by omega))
  obtain ⟨m,m1,m2,m3⟩:=num_nat hm
  refine ⟨m,m1,?_,m3⟩
  rw [← m2,(hx x q).2.2,List.getD_eq_getElem?_getD,List.getElem?_map,List.getD_eq_getElem?_getD,List.getElem?_eq_getElem (by omega)]
  rfl
 repeat' (first|refine vz ?_|(conv=>whnf); first|with_reducible first|refine Sp.mk ?_ ?_|refine br_d (fun _=>?_) fun _=>?_|refine vM (fun _=>?_) fun _=>?_)
 refine Lp.mk ⟨Nat × Int × Int,fun y=>[(0,.str s),(2,.ptr 0 0),(8,.ptr 1 0),(60,slS N),(61,.int .i64 N.length),(62,.int .i64 y.1)],fun y=>[.box [.int .i64 0,.int .i64 0,.int .i64 0,.str ⟨#[]⟩],.box [.int .i64 k,.int .i64 y.2.1,.int .i64 y.2.2,.str W]],fun y=>y.1≤N.length∧∀ x,isDd s x→y.2.1=(if 1≤y.1 then x.a else 0)∧y.2.2=(if 2≤y.1 then x.b else 0),fun y=>N.length-y.1,⟨(0,0,0),⟨Nat.zero_le _,fun _ _=>⟨rfl,rfl⟩⟩,⟨⟨[some 0,some 1],[],rfl,rfl,?_,?_⟩⟩⟩,?_⟩
 ·exact wq
 ·exact wq
 rintro ⟨i,A,B⟩ ⟨i1,i2⟩
 dsimp only at i1 i2 ⊢
 by_cases hi:i<N.length
 ·repeat' (first|refine vz ?_|(conv=>whnf); first|with_reducible first|refine Sp.mk ?_ ?_|refine br_d (fun _=>?_) fun _=>?_|refine vM (fun _=>?_) fun _=>?_)
  refine ⟨N.getD i ⟨#[]⟩,?_,⟨by have:=ns _ (getD_mem' (d:=⟨#[]⟩) hi); omega⟩,?_⟩
  ·exact wq
  intro v hv hn
  have hnum:∀ x,isDd s x→isNum (N.getD i ⟨#[]⟩)=true∧v=(numsOf x).getD i 0:=fun x q=>by
   obtain ⟨m,m1,m2,m3⟩:=hxn x q i hi
   exact ⟨by rw [m2]; exact isNum_num m1,by rw [m3]; exact hn m m1 m2⟩
  generalize isNum (N.getD i ⟨#[]⟩)=ok at hnum ⊢
  cases ok
  ·repeat' (first|refine vz ?_|(conv=>whnf); first|with_reducible first|refine Sp.mk ?_ ?_|refine br_d (fun _=>?_) fun _=>?_|refine vM (fun _=>?_) fun _=>?_)
   exact hno fun ⟨x,q⟩=>by cases (hnum x q).1
  ·repeat' (first|refine vz ?_|(conv=>whnf); first|with_reducible first|refine Sp.mk ?_ ?_|refine br_d (fun _=>?_) fun _=>?_|refine vM (fun _=>?_) fun _=>?_)
   ·rename_i h0
    obtain rfl:i=0:=by omega
    refine ⟨(1,v,B),⟨by dsimp only; omega,fun x q=>?_⟩,by dsimp only; omega,⟨⟨[some 0,some 1],[],rfl,rfl,?_,?_⟩⟩⟩
    ·have g:=numsOf_ab q.1
     have hl:=hxl x q
     exact ⟨(hnum x q).2.trans (g.2.2.2.1 (by omega)),(i2 x q).2⟩
    ·exact wq
    ·exact wq
   ·rename_i h0
    refine ⟨(i+1,A,v),⟨by dsimp only; omega,fun x q=>?_⟩,by dsimp only; omega,⟨⟨[some 0,some 1],[],rfl,rfl,?_,?_⟩⟩⟩
    ·have g:=numsOf_ab q.1
     have hl:=hxl x q
     obtain rfl:i=1:=by omega
     exact ⟨(i2 x q).1,(hnum x q).2.trans (g.2.2.2.2 (by omega))⟩
    ·exact wq
    ·exact wq
 ·have hA:∀ x,isDd s x→x=⟨k,A,B,W⟩:=fun x q=>by
   have g:=numsOf_ab q.1
   have hl:=hxl x q
   obtain ⟨e1,e2⟩:=i2 x q
   obtain ⟨e3,e4,_⟩:=hx x q
   have e5:x.a=A:=by
    rw [e1]
    split
    ·rfl
    ·exact g.2.1 (by omega)
   have e6:x.b=B:=by
    rw [e2]
    split
    ·rfl
    ·exact g.2.2.1 (by omega)
   obtain ⟨xk,xa,xb,xw⟩:=x
   dsimp only at e3 e4 e5 e6
   rw [e3,e4,e5,e6]
  repeat' (first|refine vz ?_|(conv=>whnf); first|with_reducible first|refine Sp.mk ?_ ?_|refine br_d (fun _=>?_) fun _=>?_|refine vM (fun _=>?_) fun _=>?_)
  refine ⟨⟨k,A,B,W⟩,?_,⟨by dsimp only; omega⟩,?_⟩
  ·exact wq
  repeat' (first|refine vz ?_|(conv=>whnf); first|with_reducible first|refine Sp.mk ?_ ?_|refine br_d (fun _=>?_) fun _=>?_|refine vM (fun _=>?_) fun _=>?_)
  ·rename_i e
   exact h _ (isDd_of e hne)
  ·rename_i e
   exact hno fun ⟨x,q⟩=>e (by rw [← hA x q]; exact q.2)
end Go.Proofs.YtgdbhjmpkkbnnaaGreatDoor.Vc
end
section
/- Part XD: deeds that are read, by the reference. -/
namespace Go.Proofs.YtgdbhjmpkkbnnaaGreatDoor.Vc
open Go.Proofs
set_option maxRecDepth 10000
set_option maxHeartbeats 4000000
def rdV (w:ByteArray) (v:Int):Prop:=∀ n:Nat,n<1000000→w=num n→v=n
theorem rdV_num {n v:Int} (h:0≤n∧n≤99) {w:ByteArray} (e:w=num n) (hv:rdV w v):v=n:=by
 obtain ⟨m,m1,m2,m3⟩:=num_nat h
 rw [m3]
 exact hv m m1 (by rw [e,m2])
section
variable {x:Dd} {L:List ByteArray} (hL:L=kindB x.kind :: ((numsOf x).map num ++ wordsOf x)) (h:okDd x)
include hL h
theorem dd_two {v:Int} (hl:L.length=2) (hv:rdV (L.getD 1 ⟨#[]⟩) v):x=⟨0,v,0,⟨#[]⟩⟩∨x=⟨1,0,0,L.getD 1 ⟨#[]⟩⟩:=by
 have hc:=cnt_of hL h
 have ha:=h.a
 obtain ⟨k,a,b,w⟩:=x
 rcases h.k with ⟨q1,q2,q3⟩|⟨q1,q2,q3,q4⟩|⟨q1,_⟩|⟨q1,_⟩|⟨q1,_⟩ <;> dsimp only at hL hc q1 ha
 ·dsimp only at q2 q3
  subst q1 q2 q3
  have e:L.getD 1 ⟨#[]⟩=num a:=by rw [hL]; rfl
  rw [rdV_num ha e hv]
  exact .inl rfl
 ·dsimp only at q2 q3 q4
  subst q1 q2 q3
  have e:L.getD 1 ⟨#[]⟩=w:=by
   rw [hL]
   unfold wordsOf
   rw [if_neg (plainW_no q4).1]
   rfl
  rw [e]
  exact .inr rfl
 ·omega
 ·omega
 ·omega
theorem dd_three {v v':Int} (hl:L.length=3) (hv:rdV (L.getD 1 ⟨#[]⟩) v) (hv':rdV (L.getD 2 ⟨#[]⟩) v'):x=⟨3,v,v',⟨#[]⟩⟩:=by
 have hc:=cnt_of hL h
 have ha:=h.a
 have hb:=h.b
 obtain ⟨k,a,b,w⟩:=x
 rcases h.k with ⟨q1,_⟩|⟨q1,_⟩|⟨q1,_⟩|⟨q1,q2⟩|⟨q1,_⟩ <;> dsimp only at hL hc q1 ha hb
 ·omega
 ·omega
 ·omega
 ·dsimp only at q2
  subst q1 q2
  have e:L.getD 1 ⟨#[]⟩=num a:=by rw [hL]; rfl
  have e2:L.getD 2 ⟨#[]⟩=num b:=by rw [hL]; rfl
  rw [rdV_num ha e hv,rdV_num hb e2 hv']
 ·omega
theorem dd_four {v v':Int} (hl:L.length=4) (hv:rdV (L.getD 1 ⟨#[]⟩) v) (hv':rdV (L.getD 2 ⟨#[]⟩) v'):x=⟨2,v,v',L.getD 3 ⟨#[]⟩⟩:=by
 have hc:=cnt_of hL h
 have ha:=h.a
 have hb:=h.b
 obtain ⟨k,a,b,w⟩:=x
 rcases h.k with ⟨q1,_⟩|⟨q1,_⟩|⟨q1,q2⟩|⟨q1,_⟩|⟨q1,_⟩ <;> dsimp only at hL hc q1 ha hb
 ·omega
 ·omega
 ·dsimp only at q2
  subst q1
  have e:L.getD 1 ⟨#[]⟩=num a:=by rw [hL]; rfl
  have e2:L.getD 2 ⟨#[]⟩=num b:=by rw [hL]; rfl
  have e3:L.getD 3 ⟨#[]⟩=w:=by
   rw [hL]
   unfold wordsOf
   rw [if_neg (plainW_no q2).1]
   rfl
  rw [rdV_num ha e hv,rdV_num hb e2 hv',e3]
 ·omega
 ·omega
theorem dd_one (h2:¬ L.length=2) (h3:¬ L.length=3) (h4:¬ L.length=4):x=⟨4,0,0,⟨#[]⟩⟩:=by
 have hc:=cnt_of hL h
 obtain ⟨k,a,b,w⟩:=x
 rcases h.k with ⟨q1,_⟩|⟨q1,_⟩|⟨q1,_⟩|⟨q1,_⟩|⟨q1,q2,q3,q4⟩ <;> dsimp only at hc q1
 ·omega
 ·omega
 ·omega
 ·omega
 ·dsimp only at q2 q3 q4
  rw [q1,q2,q3,q4]
end
def C244:=C258
theorem F244:FF 40 C244:=by
 refine fitX [(42,C215),(43,C216),(71,C105)] (by simp only [List.mem_cons,List.not_mem_nil,or_false]; rintro _ (rfl|rfl|rfl) <;> first|exact F215|exact F216|exact F105) [] (by simp) Tryz.f40 ⟨rfl,by decide +kernel,by decide +kernel⟩ (fun _ _ _ hk h=>h.mono hk) ?_
 rintro s K hs ⟨h,hno⟩
 refine ⟨Nat.le_of_ble_eq_true rfl,?_⟩
 repeat' (first|refine vz ?_|(conv=>whnf); first|with_reducible first|refine Sp.mk ?_ ?_|refine br_d (fun _=>?_) fun _=>?_|refine vM (fun _=>?_) fun _=>?_)
 refine ⟨(s,32),?_,⟨by dsimp only; omega⟩,?_⟩
 ·exact wq
 obtain ⟨L,hL⟩:∃ L,cutB s 32=L:=⟨_,rfl⟩
 have hl:=cutB_len s 32
 have hlm:∀ x∈L,x.size≤s.size:=fun x hx=>cutB_mem (c:=32) (hL ▸ hx)
 have hX:∀ x,isDd s x→L=kindB x.kind :: ((numsOf x).map num ++ wordsOf x):=fun x q=>hL ▸ isDd_cut q
 dsimp only
 rw [hL] at hl ⊢
 apply later
 ·intro key
  repeat' ((conv=>whnf); first|with_reducible refine wk_at 9 ?_|with_reducible refine wk_at1 9 ?_|with_reducible refine wk_at2 9 ?_|refine vA ?_|with_reducible first|refine v8 ?_|refine Ch.l ?_|refine Sp.mk ?_ ?_|refine vS ?_|refine vR ?_|refine vB ?_|refine br_nt ?_|refine br_tt ?_|refine br_ff ?_|refine vP ?_|refine vQ ?_|refine vT ?_|refine vF ?_|refine br_and ?_|refine br_or ?_|refine br_d (fun _=>?_) fun _=>?_|refine vM (fun _=>?_) fun _=>?_)
  ·rename_i q1
   have h1:=hlm _ (getD_mem' (l:=L) (i:=1) (d:=⟨#[]⟩) (by omega))
   refine Dr.mk ⟨(.rd 0 (.rd 1 (.rd 2 (.rd 3 (.rd 6 (.rd 7 (.rd 8 (.rd 9 (.ef 4 (.rd 5 (.ef 10 (.ef 11 (.rd 12 .dn) .no) .no)) .no))))))))),by decide +kernel,?_⟩
   repeat' (first|refine vz ?_|(conv=>whnf); first|with_reducible first|refine Sp.mk ?_ ?_|refine br_d (fun _=>?_) fun _=>?_|refine vM (fun _=>?_) fun _=>?_)
   all_goals
    refine ⟨L.getD 1 ⟨#[]⟩,?_,⟨by omega⟩,?_⟩
    ·exact wq
    intro v hv hn
    repeat' ((conv=>whnf); first|with_reducible refine wk_at 9 ?_|with_reducible refine wk_at1 9 ?_|with_reducible refine wk_at2 9 ?_|refine vA ?_|with_reducible first|refine v8 ?_|refine Ch.l ?_|refine Sp.mk ?_ ?_|refine vS ?_|refine vR ?_|refine vB ?_|refine br_nt ?_|refine br_tt ?_|refine br_ff ?_|refine vP ?_|refine vQ ?_|refine vT ?_|refine vF ?_|refine br_and ?_|refine br_or ?_|refine br_d (fun _=>?_) fun _=>?_|refine vM (fun _=>?_) fun _=>?_)
   all_goals
    obtain ⟨l,hle⟩:∃ l:List Dd,l=[⟨4,0,0,⟨#[]⟩⟩,⟨0,v,0,⟨#[]⟩⟩,⟨1,0,0,L.getD 1 ⟨#[]⟩⟩]:=⟨_,rfl⟩
    have hlx:l.length≤3∧(∀ y∈l,y.words.size≤s.size)∧∀ x,isDd s x→x∈l:=by
     subst hle
     refine ⟨by simp,?_,fun x q=>?_⟩
     ·simp only [List.mem_cons,List.not_mem_nil,or_false]
      rintro y (rfl|rfl|rfl) <;> first|exact Nat.zero_le _|assumption
     ·rcases dd_two (hX x q) q.1 (by omega) hn with rfl|rfl <;> simp
    refine ⟨Wk.go [(0,.str s),(2,.ptr 0 0),(5,slD l)] [.box [.int .i64 0,.int .i64 0,.int .i64 0,.str ⟨#[]⟩]] ?_ ?_⟩
    ·subst hle
     first|(refine ⟨⟨[some 0],[1],rfl,rfl,?_,?_⟩⟩ <;> (repeat' ((conv=>whnf); first|with_reducible exact True.intro|exact vW|with_reducible refine And.intro ?_ ?_|exact Chk.mk ⟨rfl,by decide,(fun i hi=>by rcases (show i=0∨i=1∨i=2 by (have hi': i<3:=hi); omega) with rfl|rfl|rfl <;> rfl)⟩)) <;> fail)|(refine ⟨⟨[some 0],[2],rfl,rfl,?_,?_⟩⟩ <;> (repeat' ((conv=>whnf); first|with_reducible exact True.intro|exact vW|with_reducible refine And.intro ?_ ?_|exact Chk.mk ⟨rfl,by decide,(fun i hi=>by rcases (show i=0∨i=1∨i=2 by (have hi': i<3:=hi); omega) with rfl|rfl|rfl <;> rfl)⟩)) <;> fail)|(refine ⟨⟨[some 0],[3],rfl,rfl,?_,?_⟩⟩ <;> (repeat' ((conv=>whnf); first|with_reducible exact True.intro|exact vW|with_reducible refine And.intro ?_ ?_|exact Chk.mk ⟨rfl,by decide,(fun i hi=>by rcases (show i=0∨i=1∨i=2 by (have hi': i<3:=hi); omega) with rfl|rfl|rfl <;> rfl)⟩)) <;> fail)|(refine ⟨⟨[some 0],[4],rfl,rfl,?_,?_⟩⟩ <;> (repeat' ((conv=>whnf); first|with_reducible exact True.intro|exact vW|with_reducible refine And.intro ?_ ?_|exact Chk.mk ⟨rfl,by decide,(fun i hi=>by rcases (show i=0∨i=1∨i=2 by (have hi': i<3:=hi); omega) with rfl|rfl|rfl <;> rfl)⟩)) <;> fail)
    clear hle
    revert l
    exact key.t
  ·rename_i q0 q1
   have h1:=hlm _ (getD_mem' (l:=L) (i:=1) (d:=⟨#[]⟩) (by omega))
   have h2:=hlm _ (getD_mem' (l:=L) (i:=2) (d:=⟨#[]⟩) (by omega))
   refine Dr.mk ⟨(.rd 0 (.rd 1 (.rd 2 (.rd 3 (.rd 5 (.rd 6 (.rd 7 (.ef 4 (.ef 8 (.rd 9 (.ef 10 (.ef 11 (.rd 12 .dn) .no) .no)) .no) .no)))))))),by decide +kernel,?_⟩
   repeat' (first|refine vz ?_|(conv=>whnf); first|with_reducible first|refine Sp.mk ?_ ?_|refine br_d (fun _=>?_) fun _=>?_|refine vM (fun _=>?_) fun _=>?_)
   all_goals
    refine ⟨L.getD 1 ⟨#[]⟩,?_,⟨by omega⟩,?_⟩
    ·exact wq
    intro v hv hn
    repeat' (first|refine vz ?_|(conv=>whnf); first|with_reducible first|refine Sp.mk ?_ ?_|refine br_d (fun _=>?_) fun _=>?_|refine vM (fun _=>?_) fun _=>?_)
   all_goals
    refine ⟨L.getD 2 ⟨#[]⟩,?_,⟨by omega⟩,?_⟩
    ·exact wq
    intro v' hv' hn'
    repeat' ((conv=>whnf); first|with_reducible refine wk_at 9 ?_|with_reducible refine wk_at1 9 ?_|with_reducible refine wk_at2 9 ?_|refine vA ?_|with_reducible first|refine v8 ?_|refine Ch.l ?_|refine Sp.mk ?_ ?_|refine vS ?_|refine vR ?_|refine vB ?_|refine br_nt ?_|refine br_tt ?_|refine br_ff ?_|refine vP ?_|refine vQ ?_|refine vT ?_|refine vF ?_|refine br_and ?_|refine br_or ?_|refine br_d (fun _=>?_) fun _=>?_|refine vM (fun _=>?_) fun _=>?_)
   all_goals
    obtain ⟨l,hle⟩:∃ l:List Dd,l=[⟨4,0,0,⟨#[]⟩⟩,⟨3,v,v',⟨#[]⟩⟩]:=⟨_,rfl⟩
    have hlx:l.length≤3∧(∀ y∈l,y.words.size≤s.size)∧∀ x,isDd s x→x∈l:=by
     subst hle
     refine ⟨by simp,?_,fun x q=>?_⟩
     ·simp only [List.mem_cons,List.not_mem_nil,or_false]
      rintro y (rfl|rfl) <;> first|exact Nat.zero_le _|assumption
     ·rw [dd_three (hX x q) q.1 (by omega) hn hn']; simp
    refine ⟨Wk.go [(0,.str s),(2,.ptr 0 0),(5,slD l)] [.box [.int .i64 0,.int .i64 0,.int .i64 0,.str ⟨#[]⟩]] ?_ ?_⟩
    ·subst hle
     first|(refine ⟨⟨[some 0],[1],rfl,rfl,?_,?_⟩⟩ <;> (repeat' ((conv=>whnf); first|with_reducible exact True.intro|exact vW|with_reducible refine And.intro ?_ ?_|exact Chk.mk ⟨rfl,by decide,(fun i hi=>by rcases (show i=0∨i=1 by (have hi': i<2:=hi); omega) with rfl|rfl <;> rfl)⟩)) <;> fail)|(refine ⟨⟨[some 0],[2],rfl,rfl,?_,?_⟩⟩ <;> (repeat' ((conv=>whnf); first|with_reducible exact True.intro|exact vW|with_reducible refine And.intro ?_ ?_|exact Chk.mk ⟨rfl,by decide,(fun i hi=>by rcases (show i=0∨i=1 by (have hi': i<2:=hi); omega) with rfl|rfl <;> rfl)⟩)) <;> fail)|(refine ⟨⟨[some 0],[3],rfl,rfl,?_,?_⟩⟩ <;> (repeat' ((conv=>whnf); first|with_reducible exact True.intro|exact vW|with_reducible refine And.intro ?_ ?_|exact Chk.mk ⟨rfl,by decide,(fun i hi=>by rcases (show i=0∨i=1 by (have hi': i<2:=hi); omega) with rfl|rfl <;> rfl)⟩)) <;> fail)|(refine ⟨⟨[some 0],[4],rfl,rfl,?_,?_⟩⟩ <;> (repeat' ((conv=>whnf); first|with_reducible exact True.intro|exact vW|with_reducible refine And.intro ?_ ?_|exact Chk.mk ⟨rfl,by decide,(fun i hi=>by rcases (show i=0∨i=1 by (have hi': i<2:=hi); omega) with rfl|rfl <;> rfl)⟩)) <;> fail)
    clear hle
    revert l
    exact key.t
  ·rename_i q0 q1 q2
   have h1:=hlm _ (getD_mem' (l:=L) (i:=1) (d:=⟨#[]⟩) (by omega))
   have h2:=hlm _ (getD_mem' (l:=L) (i:=2) (d:=⟨#[]⟩) (by omega))
   have h3:=hlm _ (getD_mem' (l:=L) (i:=3) (d:=⟨#[]⟩) (by omega))
   refine Dr.mk ⟨(.rd 0 (.rd 1 (.rd 2 (.rd 3 (.rd 5 (.rd 6 (.rd 7 (.rd 9 (.rd 10 (.rd 11 (.ef 4 (.ef 8 (.rd 12 (.ef 13 (.ef 14 (.rd 15 .dn) .no) .no)) .no) .no))))))))))),by decide +kernel,?_⟩
   repeat' (first|refine vz ?_|(conv=>whnf); first|with_reducible first|refine Sp.mk ?_ ?_|refine br_d (fun _=>?_) fun _=>?_|refine vM (fun _=>?_) fun _=>?_)
   all_goals
    refine ⟨L.getD 1 ⟨#[]⟩,?_,⟨by omega⟩,?_⟩
    ·exact wq
    intro v hv hn
    repeat' (first|refine vz ?_|(conv=>whnf); first|with_reducible first|refine Sp.mk ?_ ?_|refine br_d (fun _=>?_) fun _=>?_|refine vM (fun _=>?_) fun _=>?_)
   all_goals
    refine ⟨L.getD 2 ⟨#[]⟩,?_,⟨by omega⟩,?_⟩
    ·exact wq
    intro v' hv' hn'
    repeat' ((conv=>whnf); first|with_reducible refine wk_at 9 ?_|with_reducible refine wk_at1 9 ?_|with_reducible refine wk_at2 9 ?_|refine vA ?_|with_reducible first|refine v8 ?_|refine Ch.l ?_|refine Sp.mk ?_ ?_|refine vS ?_|refine vR ?_|refine vB ?_|refine br_nt ?_|refine br_tt ?_|refine br_ff ?_|refine vP ?_|refine vQ ?_|refine vT ?_|refine vF ?_|refine br_and ?_|refine br_or ?_|refine br_d (fun _=>?_) fun _=>?_|refine vM (fun _=>?_) fun _=>?_)
   all_goals
    obtain ⟨l,hle⟩:∃ l:List Dd,l=[⟨4,0,0,⟨#[]⟩⟩,⟨2,v,v',L.getD 3 ⟨#[]⟩⟩]:=⟨_,rfl⟩
    have hlx:l.length≤3∧(∀ y∈l,y.words.size≤s.size)∧∀ x,isDd s x→x∈l:=by
     subst hle
     refine ⟨by simp,?_,fun x q=>?_⟩
     ·simp only [List.mem_cons,List.not_mem_nil,or_false]
      rintro y (rfl|rfl) <;> first|exact Nat.zero_le _|assumption
     ·rw [dd_four (hX x q) q.1 (by omega) hn hn']; simp
    refine ⟨Wk.go [(0,.str s),(2,.ptr 0 0),(5,slD l)] [.box [.int .i64 0,.int .i64 0,.int .i64 0,.str ⟨#[]⟩]] ?_ ?_⟩
    ·subst hle
     first|(refine ⟨⟨[some 0],[1],rfl,rfl,?_,?_⟩⟩ <;> (repeat' ((conv=>whnf); first|with_reducible exact True.intro|exact vW|with_reducible refine And.intro ?_ ?_|exact Chk.mk ⟨rfl,by decide,(fun i hi=>by rcases (show i=0∨i=1 by (have hi': i<2:=hi); omega) with rfl|rfl <;> rfl)⟩)) <;> fail)|(refine ⟨⟨[some 0],[2],rfl,rfl,?_,?_⟩⟩ <;> (repeat' ((conv=>whnf); first|with_reducible exact True.intro|exact vW|with_reducible refine And.intro ?_ ?_|exact Chk.mk ⟨rfl,by decide,(fun i hi=>by rcases (show i=0∨i=1 by (have hi': i<2:=hi); omega) with rfl|rfl <;> rfl)⟩)) <;> fail)|(refine ⟨⟨[some 0],[3],rfl,rfl,?_,?_⟩⟩ <;> (repeat' ((conv=>whnf); first|with_reducible exact True.intro|exact vW|with_reducible refine And.intro ?_ ?_|exact Chk.mk ⟨rfl,by decide,(fun i hi=>by rcases (show i=0∨i=1 by (have hi': i<2:=hi); omega) with rfl|rfl <;> rfl)⟩)) <;> fail)|(refine ⟨⟨[some 0],[4],rfl,rfl,?_,?_⟩⟩ <;> (repeat' ((conv=>whnf); first|with_reducible exact True.intro|exact vW|with_reducible refine And.intro ?_ ?_|exact Chk.mk ⟨rfl,by decide,(fun i hi=>by rcases (show i=0∨i=1 by (have hi': i<2:=hi); omega) with rfl|rfl <;> rfl)⟩)) <;> fail)
    clear hle
    revert l
    exact key.t
  ·rename_i q0 q1 q2
   obtain ⟨l,hle⟩:∃ l:List Dd,l=[⟨4,0,0,⟨#[]⟩⟩]:=⟨_,rfl⟩
   have hlx:l.length≤3∧(∀ y∈l,y.words.size≤s.size)∧∀ x,isDd s x→x∈l:=by
    subst hle
    refine ⟨by simp,?_,fun x q=>?_⟩
    ·simp only [List.mem_cons,List.not_mem_nil,or_false]
     rintro y rfl <;> first|exact Nat.zero_le _|assumption
    ·rw [dd_one (hX x q) q.1 (by omega) (by omega) (by omega)]; simp
   refine ⟨Wk.go [(0,.str s),(2,.ptr 0 0),(5,slD l)] [.box [.int .i64 0,.int .i64 0,.int .i64 0,.str ⟨#[]⟩]] ?_ ?_⟩
   ·subst hle
    first|(refine ⟨⟨[some 0],[1],rfl,rfl,?_,?_⟩⟩ <;> (repeat' ((conv=>whnf); first|with_reducible exact True.intro|exact vW|with_reducible refine And.intro ?_ ?_|exact Chk.mk ⟨rfl,by decide,(fun i hi=>by rcases (show i=0 by (have hi': i<1:=hi); omega) with rfl <;> rfl)⟩)) <;> fail)|(refine ⟨⟨[some 0],[2],rfl,rfl,?_,?_⟩⟩ <;> (repeat' ((conv=>whnf); first|with_reducible exact True.intro|exact vW|with_reducible refine And.intro ?_ ?_|exact Chk.mk ⟨rfl,by decide,(fun i hi=>by rcases (show i=0 by (have hi': i<1:=hi); omega) with rfl <;> rfl)⟩)) <;> fail)|(refine ⟨⟨[some 0],[3],rfl,rfl,?_,?_⟩⟩ <;> (repeat' ((conv=>whnf); first|with_reducible exact True.intro|exact vW|with_reducible refine And.intro ?_ ?_|exact Chk.mk ⟨rfl,by decide,(fun i hi=>by rcases (show i=0 by (have hi': i<1:=hi); omega) with rfl <;> rfl)⟩)) <;> fail)|(refine ⟨⟨[some 0],[4],rfl,rfl,?_,?_⟩⟩ <;> (repeat' ((conv=>whnf); first|with_reducible exact True.intro|exact vW|with_reducible refine And.intro ?_ ?_|exact Chk.mk ⟨rfl,by decide,(fun i hi=>by rcases (show i=0 by (have hi': i<1:=hi); omega) with rfl <;> rfl)⟩)) <;> fail)
   clear hle
   revert l
   exact key.t
 rintro l ⟨l1,l2,l3⟩
 repeat' (first|refine vz ?_|(conv=>whnf); first|with_reducible first|refine Sp.mk ?_ ?_|refine br_d (fun _=>?_) fun _=>?_|refine vM (fun _=>?_) fun _=>?_)
 refine Lp.mk ⟨Nat,fun i=>[(0,.str s),(2,.ptr 0 0),(5,slD l),(6,.int .i64 i)],fun _=>[.box [.int .i64 0,.int .i64 0,.int .i64 0,.str ⟨#[]⟩]],fun i=>i≤l.length∧∀ j,j<i→¬ isDd s (l.getD j default),fun i=>l.length-i,⟨0,⟨Nat.zero_le _,fun j hj=>absurd hj (Nat.not_lt_zero _)⟩,⟨⟨[some 0],[],rfl,rfl,?_,?_⟩⟩⟩,?_⟩
 ·exact wq
 ·exact wq
 rintro i ⟨i1,i2⟩
 dsimp only
 by_cases hi:i<l.length
 ·have hw:=l2 _ (getD_mem' (d:=default) hi)
  have hstep:¬ isDd s (l.getD i default)→∀ j,j<i+1→¬ isDd s (l.getD j default):=fun g j hj=>by
   by_cases e:j=i
   ·subst e; exact g
   ·exact i2 j (by omega)
  by_cases hs0:s=⟨#[]⟩
  ·repeat' (first|refine vz ?_|(conv=>whnf); first|with_reducible first|refine Sp.mk ?_ ?_|refine br_d (fun _=>?_) fun _=>?_|refine vM (fun _=>?_) fun _=>?_)
   refine ⟨i+1,⟨by omega,hstep fun q=>isDd_ne q hs0⟩,by omega,⟨⟨[some 0],[],rfl,rfl,?_,?_⟩⟩⟩
   ·exact wq
   ·exact wq
  ·repeat' (first|refine vz ?_|(conv=>whnf); first|with_reducible first|refine Sp.mk ?_ ?_|refine br_d (fun _=>?_) fun _=>?_|refine vM (fun _=>?_) fun _=>?_)
   refine ⟨l.getD i default,?_,⟨by omega⟩,?_⟩
   ·exact wq
   repeat' (first|refine vz ?_|(conv=>whnf); first|with_reducible first|refine Sp.mk ?_ ?_|refine br_d (fun _=>?_) fun _=>?_|refine vM (fun _=>?_) fun _=>?_)
   ·rename_i e
    exact h _ (isDd_of e hs0)
   ·rename_i e
    refine ⟨i+1,⟨by omega,hstep fun q=>e q.2⟩,by omega,⟨⟨[some 0],[],rfl,rfl,?_,?_⟩⟩⟩
    ·exact wq
    ·exact wq
 ·repeat' (first|refine vz ?_|(conv=>whnf); first|with_reducible first|refine Sp.mk ?_ ?_|refine br_d (fun _=>?_) fun _=>?_|refine vM (fun _=>?_) fun _=>?_)
  refine hno fun ⟨x,q⟩=>?_
  obtain ⟨j,hj,e⟩:=List.getElem_of_mem (l3 x q)
  refine i2 j (by omega) ?_
  rw [List.getD_eq_getElem?_getD,List.getElem?_eq_getElem hj,e]
  exact q
end Go.Proofs.YtgdbhjmpkkbnnaaGreatDoor.Vc
end
section
/- Part XF: journals that are read, by both sides. -/
namespace Go.Proofs.YtgdbhjmpkkbnnaaGreatDoor.Vc
open Go.Proofs
set_option maxRecDepth 10000
set_option maxHeartbeats 4000000
/-! ### strings.Cut -/
def cutPost (c:UInt8) (s:ByteArray) (K:AV→Prop):Prop:=(∀ p r:ByteArray,c ∉ p.data.toList→s.data.toList=p.data.toList ++ c :: r.data.toList→K (.tup [.str p,.str r,.bool true]))∧(c ∉ s.data.toList→K (.tup [.str s,.str ⟨#[]⟩,.bool false]))
def C265:List AV→(AV→Prop)→Prop:=con (X:=ByteArray × UInt8) (fun x=>[.str x.1,.str ⟨#[x.2]⟩]) (fun x=>x.1.size<4294967281) fun x K=>cutPost x.2 x.1 K
theorem three_pv {R:Nat→Prop} {w:World} {a b:ByteArray} {c:Bool}:PV R w (.tup [.str a,.str b,.bool c]) (.tuple #[.string a,.string b,.bool c]):=by
 refine .tup _ _ rfl fun j hj=>?_
 replace hj:j<3:=hj
 rcases (show j=0∨j=1∨j=2 by omega) with rfl|rfl|rfl
 ·exact .data (.str _)
 ·exact .data (.str _)
 ·exact .data (.bool _)
theorem F265:FF 137 C265:=fun Gl hG=>by
 refine ⟨FnOk.has ⟨rfl,by decide +kernel,by decide +kernel⟩ (fn:=Tryz.f137),fun us K K' hk ⟨x,h1,h2,h3⟩=>⟨x,h1,h2,fun p r q1 q2=>hk _ (h3.1 p r q1 q2),fun q=>hk _ (h3.2 q)⟩,?_⟩
 rintro us K ⟨⟨s,c⟩,h1,⟨h2⟩,h3⟩ R w xs hL hA
 obtain ⟨g1,g2⟩:=exL_PV (R:=R) (w:=w) us _ h1
 have hA':ArgsV R w [.str s,.str ⟨#[c]⟩] xs:=⟨hA.1.trans g1,fun j hj=>g2 j (g1 ▸ hj) _ (hA.2 j (g1 ▸ hj))⟩
 obtain rfl:=args_pl rfl hA'
 have hw:=(hG w fun p hp=>(hL.gl p hp).2).len
 obtain ⟨cs, hv, m, rfl⟩ := hw.resolve_left (by intro e; have : Tryz.prog.globalNamed "internal/bytealg.MaxLen" = none := e; revert this; decide +kernel)
 refine (Tryz.strings_Cut s ⟨#[c]⟩ m w h2 ((World.var?_cell (P:=Tryz.prog) (by kernel_rfl) hv 0).trans rfl)).mono fun e w' he=>?_
 obtain ⟨rfl,n,rfl⟩:=he
 show ∃ r x R',Ending.returned (.tuple #[.string ⟨(Lib.cut s.data.toList [c]).1.toArray⟩,.string ⟨(Lib.cut s.data.toList [c]).2.1.toArray⟩,.bool (Lib.cut s.data.toList [c]).2.2])=.returned x∧_
 by_cases hc:c∈s.data.toList
 ·obtain ⟨x,r,e,hx⟩:=first_occ hc
  have hi:=index_hit (r:=r) hx
  have hcut:Lib.cut s.data.toList [c]=(x,r,true):=by
   rw [e]
   unfold Lib.cut
   rw [hi,if_pos (by omega),Int.toNat_natCast,List.take_left,show ([c]:List UInt8).length=1 from rfl,List.drop_append,List.drop_of_length_le (by omega),show x.length+1-x.length=1 by omega]
   rfl
  rw [hcut]
  exact ⟨_,_,R,rfl,h3.1 ⟨x.toArray⟩ ⟨r.toArray⟩ hx e,three_pv,⟨hL.lt,fun _ h=>h,fun _ h=>.inl h,Nat.le_refl _,fun _ _=>rfl,rfl,rfl,rfl⟩⟩
 ·have hi:=index_none hc
  have hcut:Lib.cut s.data.toList [c]=(s.data.toList,[],false):=by
   unfold Lib.cut
   rw [hi]
   rfl
  rw [hcut]
  exact ⟨_,_,R,rfl,h3.2 hc,three_pv,⟨hL.lt,fun _ h=>h,fun _ h=>.inl h,Nat.le_refl _,fun _ _=>rfl,rfl,rfl,rfl⟩⟩
/-! ### What has been read -/
structure jrI (s:ByteArray) (l:List Dd) (n:Nat):Prop where
 ok:∀ x∈l,okDd x
 nn:n=(jl l).length
 le:n≤s.size
 eq:s.data.toList=jl l ++ s.data.toList.drop n
theorem jrI_0 (s:ByteArray):jrI s [] 0:=⟨fun _ h=>(by cases h),rfl,Nat.zero_le _,rfl⟩
theorem jrI.end {s:ByteArray} {l:List Dd} {n:Nat} (h:jrI s l n) (hs:∀ x t,okDd x→s.data.toList.drop n≠lineL x ++ t):jr s=l∧jn s=n:=by
 obtain ⟨e1,e2⟩:=jr_of ⟨h.ok,h.eq,hs⟩
 exact ⟨e1,e2.trans h.nn.symm⟩
theorem jrI.step {s:ByteArray} {l:List Dd} {n:Nat} {p:ByteArray} {x:Dd} {r:List UInt8} (h:jrI s l n) (hp:s.data.toList.drop n=p.data.toList ++ 10 :: r) (hx:isDd p x):jrI s (l ++ [x]) (n+(p.size+1)):=by
 have hl:lineL x=p.data.toList ++ [10]:=by unfold lineL; rw [hx.2]
 have hn:(lineL x).length=p.size+1:=by rw [line_len,hx.2]
 have hlen:(s.data.toList.drop n).length=s.size-n:=by rw [List.length_drop,Array.length_toList]; rfl
 refine ⟨fun y hy=>(List.mem_append.1 hy).elim (h.ok y) fun q=>by rw [List.mem_singleton.1 q]; exact hx.1,?_,?_,?_⟩
 ·rw [jl_app,jl_one,List.length_append,← h.nn,hn]
 ·have:=congrArg List.length hp
  rw [hlen,List.length_append,Array.length_toList] at this
  simp only [List.length_cons] at this
  have hps:p.size=p.data.size:=rfl
  have:=h.le
  omega
 ·have e2:s.data.toList.drop (n+(p.size+1))=r:=by
   rw [← List.drop_drop,hp,show p.data.toList ++ 10 :: r=(p.data.toList ++ [10]) ++ r by simp]
   exact List.drop_left' (by rw [List.length_append,Array.length_toList]; rfl)
  rw [e2,jl_app,jl_one,hl]
  have:=h.eq
  rw [hp] at this
  rw [this]
  simp
theorem stop_line {p:ByteArray} {r:List UInt8} (hp:(10:UInt8) ∉ p.data.toList) (hx:¬ ∃ x,isDd p x):∀ x t,okDd x→p.data.toList ++ 10 :: r≠lineL x ++ t:=fun x t h e=>by
 unfold lineL at e
 rw [List.append_assoc] at e
 obtain ⟨e1,_⟩:=first_inj hp (deed_nl x) e
 exact hx ⟨x,h,(bytes_inj e1).symm⟩
theorem stop_none {t:List UInt8} (h:(10:UInt8) ∉ t):∀ x u,okDd x→t≠lineL x ++ u:=fun x u _ e=>h (by
 rw [e]
 unfold lineL
 simp)
theorem ext_tail {s:ByteArray} {n:Nat}:(s.extract n s.size).data.toList=s.data.toList.drop n:=by
 rw [ext_list,List.take_of_length_le (by rw [List.length_drop,Array.length_toList]; exact Nat.le_refl _)]
/-! ### The implementation's -/
end Go.Proofs.YtgdbhjmpkkbnnaaGreatDoor.Vc
end
section
/- Part XG: journals, by the reference; marks of deeds. -/
namespace Go.Proofs.YtgdbhjmpkkbnnaaGreatDoor.Vc
open Go.Proofs
set_option maxRecDepth 10000
set_option maxHeartbeats 4000000
def C246:List AV→(AV→Prop)→Prop:=con (X:=ByteArray) (fun s=>[.str s]) (fun s=>s.size≤1048576) fun s K=>K (.tup [slD (jr s),.int .i64 (jn s:Nat)])
theorem ext_more {s:ByteArray} {n k:Nat} {b:UInt8} (hnk:n≤k) (h:s.data.toList.drop k=b :: s.data.toList.drop (k+1)):(s.extract n (k+1)).data.toList=(s.extract n k).data.toList ++ [b]:=ext_snocL hnk h
theorem drop_split {s:ByteArray} {n k:Nat} (h:n≤k):s.data.toList.drop n=(s.extract n k).data.toList ++ s.data.toList.drop k:=by
 rw [ext_list]
 conv=>lhs; rw [← List.take_append_drop (k-n) (s.data.toList.drop n)]
 rw [List.drop_drop,show n+(k-n)=k by omega]
structure Jst where
 l:List Dd
 n:Nat
 k:Nat
theorem F246:FF 66 C246:=by
 refine fitXE [(40,C244)] (by simp only [List.mem_cons,List.not_mem_nil,or_false]; rintro _ rfl <;> first|exact F244) [] (by simp) Tryz.f66 ⟨rfl,by decide +kernel,by decide +kernel⟩ (by intro x K K2 hk h; (try dsimp only at h ⊢); intros; apply hk; first|exact h|(apply h <;> assumption)) ?_
 rintro s K hs h
 refine ⟨Nat.le_of_ble_eq_true rfl,?_⟩
 repeat' (first|refine vz ?_|(conv=>whnf); first|with_reducible first|refine Sp.mk ?_ ?_|refine br_d (fun _=>?_) fun _=>?_|refine vM (fun _=>?_) fun _=>?_)
 refine Lp.mk ⟨Jst,fun x=>[(0,.str s),(4,.row 0 4 0 x.l.length),(5,.int .i64 x.n),(6,.int .i64 x.k)],fun x=>[.row 4 x.l.length fun i=>encD (x.l.getD i default)],fun x=>jrI s x.l x.n∧x.n≤x.k∧x.k≤s.size∧(10:UInt8) ∉ (s.extract x.n x.k).data.toList,fun x=>s.size-x.k,⟨⟨[],0,0⟩,⟨jrI_0 s,Nat.le_refl _,Nat.zero_le _,by rw [ext_list]; exact fun q=>by cases q⟩,⟨⟨[none],[],rfl,rfl,?_,?_⟩⟩⟩,?_⟩
 ·exact wq
 ·exact wq
 rintro ⟨l,n,k⟩ ⟨hI,i2,i3,i4⟩
 have i1:=hI.le
 dsimp only at i1 i2 i3 i4 hI ⊢
 have hll:l.length≤n:=by rw [hI.nn]; exact jl_len l
 have hbye:(∀ x t,okDd x→s.data.toList.drop n≠lineL x ++ t)→jr s=l∧jn s=n:=hI.end
 have hps:(s.extract n k).size≤s.size:=by rw [ByteArray.size_extract]; omega
 by_cases hk:k<s.size
 ·obtain ⟨b,e1,e2⟩:=drop_bt hk
  have e1':bt s (k:Int).toNat=(b.toNat:Int):=e1
  by_cases hb:(b.toNat:Int)=10
  ·obtain rfl:b=10:=UInt8.toNat_inj.1 (by show b.toNat=10; omega)
   have q2:s.data.toList.drop n=(s.extract n k).data.toList ++ 10 :: s.data.toList.drop (k+1):=by rw [drop_split i2,e2]
   have hsz:n+((s.extract n k).size+1)=k+1:=by
    rw [ByteArray.size_extract]
    omega
   repeat' (first|refine vz ?_|(conv=>whnf); first|with_reducible first|refine Sp.mk ?_ ?_|refine br_d (fun _=>?_) fun _=>?_|refine vM (fun _=>?_) fun _=>?_)
   refine ⟨s.extract n k,?_,⟨by omega⟩,?_⟩
   ·exact wq
   refine ⟨fun x hx=>?_,fun hx=>?_⟩
   ·have hI2:=hI.step q2 hx
    rw [hsz] at hI2
    obtain ⟨k',a,b,w⟩:=x
    dsimp only [ded,encD]
    repeat' (first|refine vz ?_|(conv=>whnf); first|with_reducible first|refine Sp.mk ?_ ?_|refine br_d (fun _=>?_) fun _=>?_|refine vM (fun _=>?_) fun _=>?_)
    refine ⟨⟨l ++ [⟨k',a,b,w⟩],k+1,k+1⟩,⟨hI2,Nat.le_refl _,by dsimp only; omega,by rw [ext_list,Nat.sub_self]; exact fun q=>by cases q⟩,by dsimp only; omega,?_⟩
    first|(refine ⟨⟨[some 3],[],rfl,rfl,?_,?_⟩⟩ <;> (repeat' ((conv=>whnf); first|with_reducible exact True.intro|exact vW|with_reducible refine And.intro ?_ ?_|exact Chk.mk ⟨rfl,by rw [List.length_append]; rfl⟩|exact Chk.mk (ext_push (enc:=encD) (d:=default) (l:=l) (x:=⟨k',a,b,w⟩) rfl))) <;> fail)|(refine ⟨⟨[some 2],[],rfl,rfl,?_,?_⟩⟩ <;> (repeat' ((conv=>whnf); first|with_reducible exact True.intro|exact vW|with_reducible refine And.intro ?_ ?_|exact Chk.mk ⟨rfl,by rw [List.length_append]; rfl⟩|exact Chk.mk (ext_push (enc:=encD) (d:=default) (l:=l) (x:=⟨k',a,b,w⟩) rfl))) <;> fail)
   ·obtain ⟨g1,g2⟩:=hbye (q2 ▸ stop_line i4 hx)
    rw [g1,g2] at h
    dsimp only [ded,encD]
    repeat' (first|refine vz ?_|(conv=>whnf); first|with_reducible first|refine Sp.mk ?_ ?_|refine br_d (fun _=>?_) fun _=>?_|refine vM (fun _=>?_) fun _=>?_)
    refine ⟨_,?_,h⟩
    repeat' ((conv=>whnf); first|with_reducible exact True.intro|exact vW|with_reducible refine And.intro ?_ ?_)
    all_goals exact Chk.mk ⟨rfl,fun i _=>by dsimp only; (try rw [Nat.zero_add]); try rfl⟩
  ·repeat' (first|refine vz ?_|(conv=>whnf); first|with_reducible first|refine Sp.mk ?_ ?_|refine br_d (fun _=>?_) fun _=>?_|refine vM (fun _=>?_) fun _=>?_)
   refine ⟨⟨l,n,k+1⟩,⟨hI,by dsimp only; omega,by dsimp only; omega,?_⟩,by dsimp only; omega,?_⟩
   ·dsimp only
    rw [ext_more i2 e2]
    intro q
    rcases List.mem_append.1 q with q|q
    ·exact i4 q
    ·have:=List.mem_singleton.1 q
     subst this
     exact hb rfl
   ·first|(refine ⟨⟨[some 0],[],rfl,rfl,?_,?_⟩⟩ <;> (repeat' ((conv=>whnf); first|with_reducible exact True.intro|exact vW|with_reducible refine And.intro ?_ ?_)) <;> fail)
 ·obtain rfl:k=s.size:=by omega
  rw [ext_tail] at i4
  obtain ⟨g1,g2⟩:=hbye (stop_none i4)
  rw [g1,g2] at h
  repeat' (first|refine vz ?_|(conv=>whnf); first|with_reducible first|refine Sp.mk ?_ ?_|refine br_d (fun _=>?_) fun _=>?_|refine vM (fun _=>?_) fun _=>?_)
  refine ⟨_,?_,h⟩
  repeat' ((conv=>whnf); first|with_reducible exact True.intro|exact vW|with_reducible refine And.intro ?_ ?_)
  all_goals exact Chk.mk ⟨rfl,fun i _=>by dsimp only; (try rw [Nat.zero_add]); try rfl⟩
/-! ### Marks -/
end Go.Proofs.YtgdbhjmpkkbnnaaGreatDoor.Vc
end
