/- Part QF: questions about a rule, by the implementation. -/
import Derived.Test.YtgdbhjmpkkbnnaaGreatDoorVc7
section
namespace Go.Proofs.YtgdbhjmpkkbnnaaGreatDoor.Vc
open Go.Proofs
set_option maxRecDepth 10000
set_option maxHeartbeats 4000000
theorem xor_need:∀ p,p<7→∀ k,k<p→bitop .i64 .xor ((2 ^ p-1:Nat):Int) (1*2 ^ min ((k:Nat):Int).toNat IntKind.i64.bits)=((2 ^ p-1:Nat):Int)-((2 ^ k:Nat):Int)∧2 ^ k≤2 ^ p-1:=by decide +kernel
theorem xor_lack:∀ p,p<7→∀ c,c<2 ^ p→bitop .i64 .xor ((2 ^ p-1:Nat):Int) ((c:Nat):Int)=((2 ^ p-1:Nat):Int)-((c:Nat):Int):=by decide +kernel
theorem xor_who {p:Int} (pp:people p) {k:Nat} (hk:(k:Int)<p):bitop .i64 .xor (full p) (1*2 ^ min (k:Int).toNat IntKind.i64.bits)=full p-((2 ^ k:Nat):Int)∧0≤full p-((2 ^ k:Nat):Int)∧full p-((2 ^ k:Nat):Int)<64:=by
 have h6:=pp.2
 have:=xor_need p.toNat (by omega) k (by omega)
 have pl:=pw_le pp
 have e:=full_nat pp
 have h2:=Nat.two_pow_pos k
 rw [← e] at this
 refine ⟨this.1,by omega,?_⟩
 unfold full at e ⊢
 omega
theorem xor_all {p:Int} (pp:people p) {c:Nat} (hc:(c:Int)<pw p):bitop .i64 .xor (full p) (c:Int)=full p-(c:Int)∧0≤full p-(c:Int)∧full p-(c:Int)<64:=by
 have h6:=pp.2
 have pn:=pw_nat pp
 have:=xor_lack p.toNat (by omega) c (by omega)
 have pl:=pw_le pp
 have e:=full_nat pp
 rw [← e] at this
 refine ⟨this,?_,?_⟩ <;> unfold full <;> omega
def C346:List AV→(AV→Prop)→Prop:=con (X:=Int) (fun p=>[.int .i64 p]) people fun p K=>K (.int .i64 (full p))
theorem F346:FF 183 C346:=by
 refine fitE [] (by simp) Tryz.f183 ⟨rfl,by decide +kernel,by decide +kernel⟩ (fun _ _ _ hk h=>hk _ h) ?_
 rintro p K pp h
 refine ⟨Nat.le_of_ble_eq_true rfl,?_⟩
 have pl:=pw_le pp
 repeat' (first|refine vz ?_|(conv=>whnf); first|with_reducible refine Wr.ex (wsh pp) ?_|with_reducible refine Wr.ex (wi64 (by rw [pw_sh pp]; omega) (by rw [pw_sh pp]; omega)) ?_|with_reducible first|refine Sp.mk ?_ ?_|refine br_d (fun _=>?_) fun _=>?_|refine vM (fun _=>?_) fun _=>?_)
 rw [pw_sh pp]
 exact h
def C342:List AV→(AV→Prop)→Prop:=con (X:=House × List Mark) (fun x=>[enH x.1,slM x.2]) (fun x=>termI x.1 x.2∧termOk x.1 x.2) fun x K=>K (.int .i64 (sayl x.1.bs x.2 (pw x.1.p).toNat).length)
theorem F342:FF 156 C342:=by
 refine fitE [(143,C38),(163,C39)] (by simp only [List.mem_cons,List.not_mem_nil,or_false]; rintro _ (rfl|rfl) <;> first|exact F38|exact F39) Tryz.f156 ⟨rfl,by decide +kernel,by decide +kernel⟩ (fun _ _ _ hk h=>hk _ h) ?_
 rintro ⟨⟨p,bs⟩,t⟩ K ⟨hI,hO⟩ h
 refine ⟨Nat.le_of_ble_eq_true rfl,?_⟩
 dsimp only [enH] at h hI hO ⊢
 have pp:people p:=hO.1.1
 have hp:=pw_le pp
 have hp1:=pp.1
 have hp6:=pp.2
 repeat' (first|refine vz ?_|(conv=>whnf); first|with_reducible first|refine Sp.mk ?_ ?_|refine br_d (fun _=>?_) fun _=>?_|refine vM (fun _=>?_) fun _=>?_)
 refine ⟨(⟨p,bs⟩,t),?_,⟨hI⟩,?_⟩
 ·exact wq
 repeat' (first|refine vz ?_|(conv=>whnf); first|with_reducible refine Wr.ex (wsh pp) ?_|with_reducible first|refine Sp.mk ?_ ?_|refine br_d (fun _=>?_) fun _=>?_|refine vM (fun _=>?_) fun _=>?_)
 refine Lp.mk ⟨Nat,fun i=>[(1,slM t),(2,.ptr 0 0),(5,.int .i64 (sayl bs t i).length),(13,.int .i64 (pw p)),(14,.int .i64 i)],
  fun _=>[.box [.int .i64 p,slI bs]],fun i=>i≤(pw p).toNat,fun i=>(pw p).toNat-i,⟨0,Nat.zero_le _,⟨⟨[some 0],[],rfl,rfl,?_,?_⟩⟩⟩,?_⟩
 ·repeat' ((conv=>whnf); first|with_reducible exact True.intro|exact vW|with_reducible refine And.intro ?_ ?_)
  all_goals exact Chk.mk (pw_sh pp).symm
 ·exact wq
 intro i i1
 dsimp only
 have hll:(sayl bs t i).length≤i:=cl_le _ i
 repeat' (first|refine vz ?_|(conv=>whnf); first|with_reducible first|refine Sp.mk ?_ ?_|refine br_d (fun _=>?_) fun _=>?_|refine vM (fun _=>?_) fun _=>?_)
 ·rename_i hi
  refine ⟨⟨p,bs,t,i⟩,?_,⟨sayOk_of hO _ (by omega) (by omega),hO.2.1⟩,?_⟩
  ·exact wq
  dsimp only
  repeat' (first|refine vz ?_|(conv=>whnf); first|with_reducible first|refine Sp.mk ?_ ?_|refine br_d (fun _=>?_) fun _=>?_|refine vM (fun _=>?_) fun _=>?_)
  ·rename_i hv
   have e:((sayl bs t (i+1)).length:Int)=(sayl bs t i).length+1:=by unfold sayl; rw [cl_t hv]; simp
   refine ⟨i+1,by show i+1≤(pw p).toNat; omega,by show (pw p).toNat-(i+1)<(pw p).toNat-i; omega,⟨⟨[some 0],[],rfl,rfl,?_,?_⟩⟩⟩
   ·exact wq
   ·exact wq
  ·rename_i hv
   have e:((sayl bs t (i+1)).length:Int)=(sayl bs t i).length:=by unfold sayl; rw [cl_f hv]
   refine ⟨i+1,by show i+1≤(pw p).toNat; omega,by show (pw p).toNat-(i+1)<(pw p).toNat-i; omega,⟨⟨[some 0],[],rfl,rfl,?_,?_⟩⟩⟩
   ·exact wq
   ·exact wq
 ·rw [show (pw p).toNat=i by omega] at h
  exact h
def C343:List AV→(AV→Prop)→Prop:=con (X:=House × List Mark) (fun x=>[enH x.1,slM x.2]) (fun x=>termI x.1 x.2∧termOk x.1 x.2) fun x K=>K (.int .i64 (needF x.1.p x.1.bs x.2 x.1.p.toNat))
theorem F343:FF 157 C343:=by
 refine fitE [(143,C38),(163,C39),(183,C346)] (by simp only [List.mem_cons,List.not_mem_nil,or_false]; rintro _ (rfl|rfl|rfl) <;> first|exact F38|exact F39|exact F346) Tryz.f157 ⟨rfl,by decide +kernel,by decide +kernel⟩ (fun _ _ _ hk h=>hk _ h) ?_
 rintro ⟨⟨p,bs⟩,t⟩ K ⟨hI,hO⟩ h
 refine ⟨Nat.le_of_ble_eq_true rfl,?_⟩
 dsimp only [enH] at h hI hO ⊢
 have pp:people p:=hO.1.1
 have hp:=pw_le pp
 have hp1:=pp.1
 have hp6:=pp.2
 repeat' (first|refine vz ?_|(conv=>whnf); first|with_reducible first|refine Sp.mk ?_ ?_|refine br_d (fun _=>?_) fun _=>?_|refine vM (fun _=>?_) fun _=>?_)
 refine ⟨(⟨p,bs⟩,t),?_,⟨hI⟩,?_⟩
 ·exact wq
 repeat' (first|refine vz ?_|(conv=>whnf); first|with_reducible refine Wr.ex (wsh pp) ?_|with_reducible first|refine Sp.mk ?_ ?_|refine br_d (fun _=>?_) fun _=>?_|refine vM (fun _=>?_) fun _=>?_)
 refine Lp.mk ⟨Nat,fun i=>[(1,slM t),(2,.ptr 0 0),(5,.int .i64 (needF p bs t i)),(12,.int .i64 p),(13,.int .i64 i)],
  fun _=>[.box [.int .i64 p,slI bs]],fun i=>i≤p.toNat,fun i=>p.toNat-i,⟨0,Nat.zero_le _,⟨⟨[some 0],[],rfl,rfl,?_,?_⟩⟩⟩,?_⟩
 ·exact wq
 ·exact wq
 intro i i1
 dsimp only
 have hl:=need_lt (p:=p) (bs:=bs) (t:=t) i (by omega)
 repeat' (first|refine vz ?_|(conv=>whnf); first|with_reducible first|refine Sp.mk ?_ ?_|refine br_d (fun _=>?_) fun _=>?_|refine vM (fun _=>?_) fun _=>?_)
 ·rename_i hi
  have hx:=xor_who pp (k:=i) (by omega)
  refine Dr.mk ⟨(.rd 0 (.rd 1 (.rd 2 (.rd 3 (.rd 5 (.rd 6 (.ef 4 (.rd 7 (.ef 8 (.rd 9 .dn) .no)) .no))))))),by decide +kernel,?_⟩
  repeat' (first|refine vz ?_|(conv=>whnf); first|with_reducible refine Wr.ex (wshw (by omega) (by omega)) ?_|with_reducible first|refine Sp.mk ?_ ?_|refine br_d (fun _=>?_) fun _=>?_|refine vM (fun _=>?_) fun _=>?_)
  refine ⟨p,?_,⟨pp⟩,?_⟩
  ·exact wq
  repeat' (first|refine vz ?_|(conv=>whnf); first|with_reducible refine Wr.ex (wshw (by omega) (by omega)) ?_|with_reducible first|refine Sp.mk ?_ ?_|refine br_d (fun _=>?_) fun _=>?_|refine vM (fun _=>?_) fun _=>?_)
  refine ⟨⟨p,bs,t,full p-((2 ^ i:Nat):Int)⟩,?_,⟨sayOk_of hO _ hx.2.1 hx.2.2,hO.2.1⟩,?_⟩
  ·repeat' ((conv=>whnf); first|with_reducible exact True.intro|exact vW|with_reducible refine And.intro ?_ ?_)
   all_goals exact Chk.mk hx.1
  dsimp only
  repeat' (first|refine vz ?_|(conv=>whnf); first|with_reducible refine Wr.ex (wshw (by omega) (by omega)) ?_|with_reducible first|refine Sp.mk ?_ ?_|refine br_d (fun _=>?_) fun _=>?_|refine vM (fun _=>?_) fun _=>?_)
  ·rename_i hv
   refine ⟨i+1,by show i+1≤p.toNat; omega,by show p.toNat-(i+1)<p.toNat-i; omega,⟨⟨[some 0],[],rfl,rfl,?_,?_⟩⟩⟩
   ·repeat' ((conv=>whnf); first|with_reducible exact True.intro|exact vW|with_reducible refine And.intro ?_ ?_)
    all_goals exact Chk.mk (by rw [needF,if_pos hv])
   ·exact wq
  ·rename_i hv
   refine ⟨i+1,by show i+1≤p.toNat; omega,by show p.toNat-(i+1)<p.toNat-i; omega,⟨⟨[some 0],[],rfl,rfl,?_,?_⟩⟩⟩
   ·repeat' ((conv=>whnf); first|with_reducible exact True.intro|exact vW|with_reducible refine And.intro ?_ ?_)
    all_goals exact Chk.mk (by rw [needF,if_neg (by rw [hv]; exact Bool.false_ne_true)]; rfl)
   ·exact wq
 ·rw [show p.toNat=i by omega] at h
  exact h
theorem decB_succ {p:Int} {bs:List Int} {t:List Mark} {n:Nat}:decB p bs t (n+1)=(decB p bs t n && !(says bs n t == says bs (full p-n) t)):=rall_succ n
theorem claB_succ {p:Int} {bs:List Int} {t:List Mark} {n:Nat}:claB p bs t (n+1)=(claB p bs t n || (says bs n t && says bs (full p-n) t)):=rany_succ n
theorem decB_le {p:Int} {bs:List Int} {t:List Mark} {n m:Nat} (h:n≤m) (e:decB p bs t n=false):decB p bs t m=false:=by
 induction h with
 |refl=>exact e
 |step _ ih=>rw [decB_succ,ih,Bool.false_and]
theorem claB_le {p:Int} {bs:List Int} {t:List Mark} {n m:Nat} (h:n≤m) (e:claB p bs t n=true):claB p bs t m=true:=by
 induction h with
 |refl=>exact e
 |step _ ih=>rw [claB_succ,ih,Bool.true_or]
def C344:List AV→(AV→Prop)→Prop:=con (X:=House × List Mark) (fun x=>[enH x.1,slM x.2]) (fun x=>termI x.1 x.2∧termOk x.1 x.2) fun x K=>K (.bool (decB x.1.p x.1.bs x.2 (pw x.1.p).toNat))
theorem F344:FF 160 C344:=by
 refine fitE [(143,C38),(163,C39),(183,C346)] (by simp only [List.mem_cons,List.not_mem_nil,or_false]; rintro _ (rfl|rfl|rfl) <;> first|exact F38|exact F39|exact F346) Tryz.f160 ⟨rfl,by decide +kernel,by decide +kernel⟩ (fun _ _ _ hk h=>hk _ h) ?_
 rintro ⟨⟨p,bs⟩,t⟩ K ⟨hI,hO⟩ h
 refine ⟨Nat.le_of_ble_eq_true rfl,?_⟩
 dsimp only [enH] at h hI hO ⊢
 have pp:people p:=hO.1.1
 have hp:=pw_le pp
 have hp1:=pp.1
 have hp6:=pp.2
 repeat' (first|refine vz ?_|(conv=>whnf); first|with_reducible first|refine Sp.mk ?_ ?_|refine br_d (fun _=>?_) fun _=>?_|refine vM (fun _=>?_) fun _=>?_)
 refine ⟨(⟨p,bs⟩,t),?_,⟨hI⟩,?_⟩
 ·exact wq
 repeat' (first|refine vz ?_|(conv=>whnf); first|with_reducible refine Wr.ex (wsh pp) ?_|with_reducible first|refine Sp.mk ?_ ?_|refine br_d (fun _=>?_) fun _=>?_|refine vM (fun _=>?_) fun _=>?_)
 refine Lp.mk ⟨Nat,fun i=>[(1,slM t),(2,.ptr 0 0),(12,.int .i64 (pw p)),(13,.int .i64 i)],
  fun _=>[.box [.int .i64 p,slI bs]],fun i=>i≤(pw p).toNat∧decB p bs t i=true,fun i=>(pw p).toNat-i,⟨0,⟨Nat.zero_le _,rfl⟩,⟨⟨[some 0],[],rfl,rfl,?_,?_⟩⟩⟩,?_⟩
 ·repeat' ((conv=>whnf); first|with_reducible exact True.intro|exact vW|with_reducible refine And.intro ?_ ?_)
  all_goals exact Chk.mk (pw_sh pp).symm
 ·exact wq
 rintro i ⟨i1,i2⟩
 dsimp only
 repeat' (first|refine vz ?_|(conv=>whnf); first|with_reducible first|refine Sp.mk ?_ ?_|refine br_d (fun _=>?_) fun _=>?_|refine vM (fun _=>?_) fun _=>?_)
 ·rename_i hi
  have hx:=xor_all pp (c:=i) (by omega)
  have ds:=decB_succ (p:=p) (bs:=bs) (t:=t) (n:=i)
  rw [i2,Bool.true_and] at ds
  refine Dr.mk ⟨(.rd 0 (.rd 1 (.rd 2 (.rd 4 (.rd 5 (.rd 6 (.rd 7 (.rd 9 (.ef 3 (.ef 8 (.rd 10 (.ef 11 (.rd 12 .dn) .no)) .no) .no))))))))),by decide +kernel,?_⟩
  repeat' (first|refine vz ?_|(conv=>whnf); first|with_reducible first|refine Sp.mk ?_ ?_|refine br_d (fun _=>?_) fun _=>?_|refine vM (fun _=>?_) fun _=>?_)
  refine ⟨⟨p,bs,t,i⟩,?_,⟨sayOk_of hO _ (by omega) (by omega),hO.2.1⟩,?_⟩
  ·exact wq
  dsimp only
  repeat' (first|refine vz ?_|(conv=>whnf); first|with_reducible first|refine Sp.mk ?_ ?_|refine br_d (fun _=>?_) fun _=>?_|refine vM (fun _=>?_) fun _=>?_)
  refine ⟨p,?_,⟨pp⟩,?_⟩
  ·exact wq
  repeat' (first|refine vz ?_|(conv=>whnf); first|with_reducible first|refine Sp.mk ?_ ?_|refine br_d (fun _=>?_) fun _=>?_|refine vM (fun _=>?_) fun _=>?_)
  refine ⟨⟨p,bs,t,full p-i⟩,?_,⟨sayOk_of hO _ hx.2.1 hx.2.2,hO.2.1⟩,?_⟩
  ·repeat' ((conv=>whnf); first|with_reducible exact True.intro|exact vW|with_reducible refine And.intro ?_ ?_)
   all_goals exact Chk.mk hx.1
  dsimp only
  repeat' (first|refine vz ?_|(conv=>whnf); first|with_reducible first|refine Sp.mk ?_ ?_|refine br_d (fun _=>?_) fun _=>?_|refine vM (fun _=>?_) fun _=>?_)
  ·rename_i hv
   have e:decB p bs t (i+1)=false:=by rw [ds,hv]; simp
   rw [decB_le (by omega) e] at h
   exact h
  ·rename_i hv
   have e:decB p bs t (i+1)=true:=by rw [ds]; simpa using hv
   refine ⟨i+1,⟨by show i+1≤(pw p).toNat; omega,e⟩,by show (pw p).toNat-(i+1)<(pw p).toNat-i; omega,⟨⟨[some 0],[],rfl,rfl,?_,?_⟩⟩⟩
   ·exact wq
   ·exact wq
 ·rw [show (pw p).toNat=i by omega,i2] at h
  exact h
def C345:List AV→(AV→Prop)→Prop:=con (X:=House × List Mark) (fun x=>[enH x.1,slM x.2]) (fun x=>termI x.1 x.2∧termOk x.1 x.2) fun x K=>K (.bool (claB x.1.p x.1.bs x.2 (pw x.1.p).toNat))
theorem F345:FF 161 C345:=by
 refine fitE [(143,C38),(163,C39),(183,C346)] (by simp only [List.mem_cons,List.not_mem_nil,or_false]; rintro _ (rfl|rfl|rfl) <;> first|exact F38|exact F39|exact F346) Tryz.f161 ⟨rfl,by decide +kernel,by decide +kernel⟩ (fun _ _ _ hk h=>hk _ h) ?_
 rintro ⟨⟨p,bs⟩,t⟩ K ⟨hI,hO⟩ h
 refine ⟨Nat.le_of_ble_eq_true rfl,?_⟩
 dsimp only [enH] at h hI hO ⊢
 have pp:people p:=hO.1.1
 have hp:=pw_le pp
 have hp1:=pp.1
 have hp6:=pp.2
 repeat' (first|refine vz ?_|(conv=>whnf); first|with_reducible first|refine Sp.mk ?_ ?_|refine br_d (fun _=>?_) fun _=>?_|refine vM (fun _=>?_) fun _=>?_)
 refine ⟨(⟨p,bs⟩,t),?_,⟨hI⟩,?_⟩
 ·exact wq
 repeat' (first|refine vz ?_|(conv=>whnf); first|with_reducible refine Wr.ex (wsh pp) ?_|with_reducible first|refine Sp.mk ?_ ?_|refine br_d (fun _=>?_) fun _=>?_|refine vM (fun _=>?_) fun _=>?_)
 refine Lp.mk ⟨Nat,fun i=>[(1,slM t),(2,.ptr 0 0),(12,.int .i64 (pw p)),(13,.int .i64 i)],
  fun _=>[.box [.int .i64 p,slI bs]],fun i=>i≤(pw p).toNat∧claB p bs t i=false,fun i=>(pw p).toNat-i,⟨0,⟨Nat.zero_le _,rfl⟩,⟨⟨[some 0],[],rfl,rfl,?_,?_⟩⟩⟩,?_⟩
 ·repeat' ((conv=>whnf); first|with_reducible exact True.intro|exact vW|with_reducible refine And.intro ?_ ?_)
  all_goals exact Chk.mk (pw_sh pp).symm
 ·exact wq
 rintro i ⟨i1,i2⟩
 dsimp only
 repeat' (first|refine vz ?_|(conv=>whnf); first|with_reducible first|refine Sp.mk ?_ ?_|refine br_d (fun _=>?_) fun _=>?_|refine vM (fun _=>?_) fun _=>?_)
 ·rename_i hi
  have hx:=xor_all pp (c:=i) (by omega)
  have ds:=claB_succ (p:=p) (bs:=bs) (t:=t) (n:=i)
  rw [i2,Bool.false_or] at ds
  refine Dr.mk ⟨(.rd 0 (.rd 1 (.rd 2 (.ef 3 (.rd 4 (.rd 5 (.rd 6 (.rd 7 (.rd 8 (.rd 10 (.ef 9 (.rd 11 (.ef 12 (.rd 13 .dn) .no)) .no))))))) .no)))),by decide +kernel,?_⟩
  repeat' (first|refine vz ?_|(conv=>whnf); first|with_reducible first|refine Sp.mk ?_ ?_|refine br_d (fun _=>?_) fun _=>?_|refine vM (fun _=>?_) fun _=>?_)
  refine ⟨⟨p,bs,t,i⟩,?_,⟨sayOk_of hO _ (by omega) (by omega),hO.2.1⟩,?_⟩
  ·exact wq
  dsimp only
  repeat' (first|refine vz ?_|(conv=>whnf); first|with_reducible first|refine Sp.mk ?_ ?_|refine br_d (fun _=>?_) fun _=>?_|refine vM (fun _=>?_) fun _=>?_)
  ·rename_i hv
   rw [hv,Bool.true_and] at ds
   refine ⟨p,?_,⟨pp⟩,?_⟩
   ·exact wq
   repeat' (first|refine vz ?_|(conv=>whnf); first|with_reducible first|refine Sp.mk ?_ ?_|refine br_d (fun _=>?_) fun _=>?_|refine vM (fun _=>?_) fun _=>?_)
   refine ⟨⟨p,bs,t,full p-i⟩,?_,⟨sayOk_of hO _ hx.2.1 hx.2.2,hO.2.1⟩,?_⟩
   ·repeat' ((conv=>whnf); first|with_reducible exact True.intro|exact vW|with_reducible refine And.intro ?_ ?_)
    all_goals exact Chk.mk hx.1
   dsimp only
   repeat' (first|refine vz ?_|(conv=>whnf); first|with_reducible first|refine Sp.mk ?_ ?_|refine br_d (fun _=>?_) fun _=>?_|refine vM (fun _=>?_) fun _=>?_)
   ·rename_i hv2
    rw [hv2] at ds
    rw [claB_le (by omega) ds] at h
    exact h
   ·rename_i hv2
    rw [hv2] at ds
    refine ⟨i+1,⟨by show i+1≤(pw p).toNat; omega,ds⟩,by show (pw p).toNat-(i+1)<(pw p).toNat-i; omega,⟨⟨[some 0],[],rfl,rfl,?_,?_⟩⟩⟩
    ·exact wq
    ·exact wq
  ·rename_i hv
   rw [hv,Bool.false_and] at ds
   refine ⟨i+1,⟨by show i+1≤(pw p).toNat; omega,ds⟩,by show (pw p).toNat-(i+1)<(pw p).toNat-i; omega,⟨⟨[some 0],[],rfl,rfl,?_,?_⟩⟩⟩
   ·exact wq
   ·exact wq
 ·rw [show (pw p).toNat=i by omega,i2] at h
  exact h
end Go.Proofs.YtgdbhjmpkkbnnaaGreatDoor.Vc
end
section
/- Part QH: questions about a rule, by the reference. -/
namespace Go.Proofs.YtgdbhjmpkkbnnaaGreatDoor.Vc
open Go.Proofs
set_option maxRecDepth 100000
set_option maxHeartbeats 4000000
theorem shw6:∀ k,k<6→(1:Int)*2 ^ min ((k:Nat):Int).toNat IntKind.i64.bits=((2 ^ k:Nat):Int)∧(2 ^ k:Nat)≤32:=by decide +kernel
theorem shw_nat {k:Nat} (h:k<6):(1:Int)*2 ^ min ((k:Nat):Int).toNat IntKind.i64.bits=((2 ^ k:Nat):Int):=(shw6 k h).1
def C331:List AV→(AV→Prop)→Prop:=con (X:=House × List Mark) (fun x=>[enH x.1,slM x.2]) (fun x=>termOk x.1 x.2) fun x K=>K (slI (sayl x.1.bs x.2 (pw x.1.p).toNat))
theorem F331:FF 110 C331:=by
 refine fitE [(111,C36)] (by simp only [List.mem_cons,List.not_mem_nil,or_false]; rintro _ rfl <;> first|exact F36) Tryz.f110 ⟨rfl,by decide +kernel,by decide +kernel⟩ (fun _ _ _ hk h=>hk _ h) ?_
 rintro ⟨⟨p,bs⟩,t⟩ K hO h
 refine ⟨Nat.le_of_ble_eq_true rfl,?_⟩
 dsimp only [enH] at h hO ⊢
 have hO':termOk ⟨p,bs⟩ t:=hO
 have pp:people p:=hO'.1.1
 have hp:=pw_le pp
 have hp1:=pp.1
 have hp6:=pp.2
 repeat' (first|refine vz ?_|(conv=>whnf); first|with_reducible first|refine Sp.mk ?_ ?_|refine br_d (fun _=>?_) fun _=>?_|refine vM (fun _=>?_) fun _=>?_)
 refine Lp.mk ⟨Nat,fun i=>[(1,slM t),(2,.ptr 0 0),(5,.row 1 1 0 (sayl bs t i).length),(6,.int .i64 i)],
  fun i=>[.box [.int .i64 p,slI bs],.row 1 (sayl bs t i).length fun j=>encI ((sayl bs t i).getD j 0)],fun i=>i≤(pw p).toNat,fun i=>(pw p).toNat-i,⟨0,Nat.zero_le _,⟨⟨[some 0,none],[],rfl,rfl,?_,?_⟩⟩⟩,?_⟩
 ·exact wq
 ·exact wq
 intro i i1
 dsimp only
 have hll:(sayl bs t i).length≤i:=cl_le _ i
 repeat' (first|refine vz ?_|(conv=>whnf); first|with_reducible refine Wr.ex (wsh pp) ?_|with_reducible first|refine Sp.mk ?_ ?_|refine br_d (fun _=>?_) fun _=>?_|refine vM (fun _=>?_) fun _=>?_)
 ·rename_i hi
  rw [pw_sh pp] at hi
  refine ⟨⟨p,bs,t,i⟩,?_,⟨(sayOk_of hO' _ (by omega) (by omega):sayOk ⟨p,bs,t,(i:Int)⟩)⟩,?_⟩
  ·exact wq
  dsimp only
  repeat' (first|refine vz ?_|(conv=>whnf); first|with_reducible first|refine Sp.mk ?_ ?_|refine br_d (fun _=>?_) fun _=>?_|refine vM (fun _=>?_) fun _=>?_)
  ·rename_i hv
   have e:sayl bs t (i+1)=sayl bs t i ++ [(i:Int)]:=by unfold sayl; rw [cl_t hv]
   refine ⟨i+1,by omega,by omega,?_⟩
   first|(refine ⟨⟨[some 0,some 3],[],rfl,rfl,?_,?_⟩⟩ <;> (repeat' ((conv=>whnf); first|with_reducible exact True.intro|exact vW|with_reducible refine And.intro ?_ ?_|exact Chk.mk ⟨rfl,by rw [e]; simp⟩|exact Chk.mk (by rw [e]; exact app_ext rfl))) <;> fail)|(refine ⟨⟨[some 0,some 2],[],rfl,rfl,?_,?_⟩⟩ <;> (repeat' ((conv=>whnf); first|with_reducible exact True.intro|exact vW|with_reducible refine And.intro ?_ ?_|exact Chk.mk ⟨rfl,by rw [e]; simp⟩|exact Chk.mk (by rw [e]; exact app_ext rfl))) <;> fail)
  ·rename_i hv
   have e:sayl bs t (i+1)=sayl bs t i:=by unfold sayl; rw [cl_f hv]
   refine ⟨i+1,by omega,by omega,⟨⟨[some 0,some 1],[],rfl,rfl,?_,?_⟩⟩⟩
   ·repeat' ((conv=>whnf); first|with_reducible exact True.intro|exact vW|with_reducible refine And.intro ?_ ?_)
    all_goals exact Chk.mk ⟨rfl,by rw [e]⟩
   ·repeat' ((conv=>whnf); first|with_reducible exact True.intro|exact vW|with_reducible refine And.intro ?_ ?_)
    all_goals exact Chk.mk (by rw [e]; exact ⟨rfl,fun _ _=>rfl⟩)
 ·rename_i hi
  rw [pw_sh pp] at hi
  rw [show (pw p).toNat=i by omega] at h
  refine Eq.mp (congrArg (fun z=>K (AV.sl 1 _ z)) ?_) h
  funext j
  dsimp only
  rw [Nat.zero_add]
structure Pl where
 p:Int
 l:List Int
def C332:List AV→(AV→Prop)→Prop:=con (X:=Pl) (fun x=>[.int .i64 x.p,slI x.l]) (fun x=>people x.p∧x.l.length≤64) fun x K=>K (slI (leastF x.l (pw x.p).toNat))
theorem F332:FF 109 C332:=by
 refine fitE [] (by simp) Tryz.f109 ⟨rfl,by decide +kernel,by decide +kernel⟩ (fun _ _ _ hk h=>hk _ h) ?_
 rintro ⟨p,L⟩ K ⟨pp,hL⟩ h
 refine ⟨Nat.le_of_ble_eq_true rfl,?_⟩
 dsimp only at h pp hL ⊢
 have hp:=pw_le pp
 repeat' (first|refine vz ?_|(conv=>whnf); first|with_reducible first|refine Sp.mk ?_ ?_|refine br_d (fun _=>?_) fun _=>?_|refine vM (fun _=>?_) fun _=>?_)
 refine Lp.mk ⟨Nat,fun i=>[(0,.int .i64 p),(1,slI L),(5,.row 0 1 0 (leastF L i).length),(6,.int .i64 i)],
  fun i=>[.row 1 (leastF L i).length fun j=>encI ((leastF L i).getD j 0)],fun i=>i≤(pw p).toNat,fun i=>(pw p).toNat-i,⟨0,Nat.zero_le _,⟨⟨[none],[],rfl,rfl,?_,?_⟩⟩⟩,?_⟩
 ·exact wq
 ·exact wq
 intro i i1
 dsimp only
 have hll:(leastF L i).length≤i:=cl_le _ i
 repeat' (first|refine vz ?_|(conv=>whnf); first|with_reducible refine Wr.ex (wsh pp) ?_|with_reducible first|refine Sp.mk ?_ ?_|refine br_d (fun _=>?_) fun _=>?_|refine vM (fun _=>?_) fun _=>?_)
 ·rename_i hi
  rw [pw_sh pp] at hi
  refine Lp.mk ⟨Nat,fun j=>[(0,.int .i64 p),(1,slI L),(5,.row 0 1 0 (leastF L i).length),(6,.int .i64 i),(7,.bool (memB (L.take j) i)),(8,.bool (lsB (L.take j) i)),(9,.int .i64 j)],
   fun j=>[.row 1 (leastF L i).length fun j=>encI ((leastF L i).getD j 0)],fun j=>j≤L.length,fun j=>L.length-j,⟨0,Nat.zero_le _,⟨⟨[some 0],[],rfl,rfl,?_,?_⟩⟩⟩,?_⟩
  ·exact wq
  ·exact wq
  intro j j1
  dsimp only
  repeat' (first|refine vz ?_|(conv=>whnf); first|with_reducible first|refine Sp.mk ?_ ?_|refine br_d (fun _=>?_) fun _=>?_|refine vM (fun _=>?_) fun _=>?_)
  rotate_right 3
  ·rename_i q1 q2 q3
   rw [List.take_of_length_le (by omega)] at q2 q3
   have hq:leastP L i=true:=by unfold leastP; rw [q2,q3]; rfl
   have e:leastF L (i+1)=leastF L i ++ [(i:Int)]:=cl_t hq
   refine ⟨i+1,by omega,by omega,?_⟩
   first|(refine ⟨⟨[some 2],[],rfl,rfl,?_,?_⟩⟩ <;> (repeat' ((conv=>whnf); first|with_reducible exact True.intro|exact vW|with_reducible refine And.intro ?_ ?_|exact Chk.mk ⟨rfl,by rw [e]; simp⟩|exact Chk.mk (by rw [e]; exact app_ext rfl))) <;> fail)|(refine ⟨⟨[some 1],[],rfl,rfl,?_,?_⟩⟩ <;> (repeat' ((conv=>whnf); first|with_reducible exact True.intro|exact vW|with_reducible refine And.intro ?_ ?_|exact Chk.mk ⟨rfl,by rw [e]; simp⟩|exact Chk.mk (by rw [e]; exact app_ext rfl))) <;> fail)
  ·rename_i q1 q2 q3
   rw [List.take_of_length_le (by omega)] at q2 q3
   have hq:leastP L i=false:=by unfold leastP; rw [q2,q3]; rfl
   have e:leastF L (i+1)=leastF L i:=cl_f hq
   refine ⟨i+1,by omega,by omega,⟨⟨[some 0],[],rfl,rfl,?_,?_⟩⟩⟩
   ·repeat' ((conv=>whnf); first|with_reducible exact True.intro|exact vW|with_reducible refine And.intro ?_ ?_)
    all_goals exact Chk.mk ⟨rfl,by rw [e]⟩
   ·repeat' ((conv=>whnf); first|with_reducible exact True.intro|exact vW|with_reducible refine And.intro ?_ ?_)
    all_goals exact Chk.mk (by rw [e]; exact ⟨rfl,fun _ _=>rfl⟩)
  ·rename_i q1 q2
   rw [List.take_of_length_le (by omega)] at q2
   have hq:leastP L i=false:=by unfold leastP; rw [q2]; rfl
   have e:leastF L (i+1)=leastF L i:=cl_f hq
   refine ⟨i+1,by omega,by omega,⟨⟨[some 0],[],rfl,rfl,?_,?_⟩⟩⟩
   ·repeat' ((conv=>whnf); first|with_reducible exact True.intro|exact vW|with_reducible refine And.intro ?_ ?_)
    all_goals exact Chk.mk ⟨rfl,by rw [e]⟩
   ·repeat' ((conv=>whnf); first|with_reducible exact True.intro|exact vW|with_reducible refine And.intro ?_ ?_)
    all_goals exact Chk.mk (by rw [e]; exact ⟨rfl,fun _ _=>rfl⟩)
  all_goals
   have hj':j<L.length:=by omega
   have e1:memB (L.take (j+1)) i=(memB (L.take j) i || decide (L.getD j 0=i)):=any_succ hj'
   have e2:lsB (L.take (j+1)) i=(lsB (L.take j) i && (decide (L.getD j 0=i) || decide (¬ band (L.getD j 0) i=L.getD j 0))):=all_succ hj'
   refine Dr.mk ⟨(.rd 0 (.rd 1 (.rd 2 (.rd 3 (.rd 4 (.rd 5 (.rd 6 (.rd 7 (.rd 8 (.rd 9 (.rd 10 (.rd 11 (.rd 12 (.rd 13 (.rd 14 (.rd 15 (.rd 16 (.rd 17 (.rd 18 (.rd 19 (.rd 20 (.rd 21 (.rd 22 .dn))))))))))))))))))))))),by decide +kernel,?_⟩
   repeat' (first|refine vz ?_|(conv=>whnf); first|with_reducible first|refine Sp.mk ?_ ?_|refine br_d (fun _=>?_) fun _=>?_|refine vM (fun _=>?_) fun _=>?_)
  all_goals
   refine ⟨j+1,by omega,by omega,⟨⟨[some 0],[],rfl,rfl,?_,?_⟩⟩⟩
   ·repeat' ((conv=>whnf); first|with_reducible exact True.intro|exact vW|with_reducible refine And.intro ?_ ?_)
    all_goals first|rw [e1]|rw [e2]
    all_goals try have x':L.getD j 0=(i:Int):=(by assumption:L.getD ((j:Int)).toNat 0=(i:Int))
    all_goals try have x':¬ L.getD j 0=(i:Int):=(by assumption:¬ L.getD ((j:Int)).toNat 0=(i:Int))
    all_goals simp only [*,Int.toNat_natCast,Bool.true_or,Bool.false_or,Bool.or_true,Bool.or_false,Bool.true_and,Bool.false_and,decide_true,decide_false,decide_not]
    all_goals
     repeat' ((conv=>whnf); first|with_reducible exact True.intro|exact vW|with_reducible refine And.intro ?_ ?_)
   ·exact wq
 ·rename_i hi
  rw [pw_sh pp] at hi
  rw [show (pw p).toNat=i by omega] at h
  refine Eq.mp (congrArg (fun z=>K (AV.sl 1 _ z)) ?_) h
  funext j
  dsimp only
  rw [Nat.zero_add]
open Classical in
def C324:List AV→(AV→Prop)→Prop:=con (X:=House × List Mark) (fun x=>[enH x.1,slM x.2]) (fun x=>termI x.1 x.2) fun x K=>K (slI (if termOk x.1 x.2 then leastF (sayl x.1.bs x.2 (pw x.1.p).toNat) (pw x.1.p).toNat else []))
theorem F324:FF 76 C324:=by
 refine fitXE [(108,C33),(110,C331),(109,C332)] (by simp only [List.mem_cons,List.not_mem_nil,or_false]; rintro _ (rfl|rfl|rfl) <;> first|exact F33|exact F331|exact F332) [] (by simp) Tryz.f76 ⟨rfl,by decide +kernel,by decide +kernel⟩ (by intro x K K2 hk h; (try dsimp only at h ⊢); intros; apply hk; first|exact h|(apply h <;> assumption)) ?_
 rintro ⟨⟨p,bs⟩,t⟩ K hI h
 refine ⟨Nat.le_of_ble_eq_true rfl,?_⟩
 dsimp only [enH] at h hI ⊢
 repeat' (first|refine vz ?_|(conv=>whnf); first|with_reducible first|refine Sp.mk ?_ ?_|refine br_d (fun _=>?_) fun _=>?_|refine vM (fun _=>?_) fun _=>?_)
 refine ⟨(⟨p,bs⟩,t),?_,⟨hI⟩,?_⟩
 ·exact wq
 repeat' (first|refine vz ?_|(conv=>whnf); first|with_reducible first|refine Sp.mk ?_ ?_|refine br_d (fun _=>?_) fun _=>?_|refine vM (fun _=>?_) fun _=>?_)
 ·rename_i hO
  have hO':termOk ⟨p,bs⟩ t:=hO
  have pp:people p:=hO'.1.1
  have hp:=pw_le pp
  have hp1:=pp.1
  have hp6:=pp.2
  rw [if_pos hO'] at h
  refine Dr.mk ⟨(.rd 0 (.rd 1 (.rd 2 (.rd 3 (.ef 4 (.ef 5 (.rd 6 .dn) .no) .no))))),by decide +kernel,?_⟩
  repeat' (first|refine vz ?_|(conv=>whnf); first|with_reducible first|refine Sp.mk ?_ ?_|refine br_d (fun _=>?_) fun _=>?_|refine vM (fun _=>?_) fun _=>?_)
  refine ⟨(⟨p,bs⟩,t),?_,⟨hO'⟩,?_⟩
  ·exact wq
  dsimp only
  repeat' (first|refine vz ?_|(conv=>whnf); first|with_reducible first|refine Sp.mk ?_ ?_|refine br_d (fun _=>?_) fun _=>?_|refine vM (fun _=>?_) fun _=>?_)
  refine ⟨⟨p,sayl bs t (pw p).toNat⟩,?_,⟨pp,by have:(sayl bs t (pw p).toNat).length≤(pw p).toNat:=cl_le _ _; dsimp only; omega⟩,?_⟩
  ·exact wq
  repeat' (first|refine vz ?_|(conv=>whnf); first|with_reducible first|refine Sp.mk ?_ ?_|refine br_d (fun _=>?_) fun _=>?_|refine vM (fun _=>?_) fun _=>?_)
  refine ⟨_,?_,h⟩
  repeat' ((conv=>whnf); first|with_reducible exact True.intro|exact vW|with_reducible refine And.intro ?_ ?_)
 ·rename_i hO
  rw [if_neg (show ¬ termOk ⟨p,bs⟩ t from hO)] at h
  refine ⟨_,?_,h⟩
  repeat' ((conv=>whnf); first|with_reducible exact True.intro|exact vW|with_reducible refine And.intro ?_ ?_)
  all_goals exact Chk.mk ⟨rfl,fun i hi=>absurd hi (Nat.not_lt_zero _)⟩
def C325:List AV→(AV→Prop)→Prop:=con (X:=House × List Mark) (fun x=>[enH x.1,slM x.2]) (fun x=>termI x.1 x.2) fun x K=>K (.int .i64 (if termOk x.1 x.2 then (sayl x.1.bs x.2 (pw x.1.p).toNat).length else -1))
theorem F325:FF 77 C325:=by
 refine fitE [(108,C33),(110,C331)] (by simp only [List.mem_cons,List.not_mem_nil,or_false]; rintro _ (rfl|rfl) <;> first|exact F33|exact F331) Tryz.f77 ⟨rfl,by decide +kernel,by decide +kernel⟩ (fun _ _ _ hk h=>hk _ h) ?_
 rintro ⟨⟨p,bs⟩,t⟩ K hI h
 refine ⟨Nat.le_of_ble_eq_true rfl,?_⟩
 dsimp only [enH] at h hI ⊢
 repeat' (first|refine vz ?_|(conv=>whnf); first|with_reducible first|refine Sp.mk ?_ ?_|refine br_d (fun _=>?_) fun _=>?_|refine vM (fun _=>?_) fun _=>?_)
 refine ⟨(⟨p,bs⟩,t),?_,⟨hI⟩,?_⟩
 ·exact wq
 repeat' (first|refine vz ?_|(conv=>whnf); first|with_reducible first|refine Sp.mk ?_ ?_|refine br_d (fun _=>?_) fun _=>?_|refine vM (fun _=>?_) fun _=>?_)
 ·rename_i hO
  have hO':termOk ⟨p,bs⟩ t:=hO
  have pp:people p:=hO'.1.1
  have hp:=pw_le pp
  have hp1:=pp.1
  have hp6:=pp.2
  rw [if_pos hO'] at h
  refine ⟨(⟨p,bs⟩,t),?_,⟨hO'⟩,?_⟩
  ·exact wq
  dsimp only
  repeat' (first|refine vz ?_|(conv=>whnf); first|with_reducible first|refine Sp.mk ?_ ?_|refine br_d (fun _=>?_) fun _=>?_|refine vM (fun _=>?_) fun _=>?_)
  exact h
 ·rename_i hO
  rw [if_neg (show ¬ termOk ⟨p,bs⟩ t from hO)] at h
  exact h
def C326:List AV→(AV→Prop)→Prop:=con (X:=House × List Mark) (fun x=>[enH x.1,slM x.2]) (fun x=>termI x.1 x.2) fun x K=>K (.int .i64 (if termOk x.1 x.2 then needF x.1.p x.1.bs x.2 x.1.p.toNat else -1))
theorem F326:FF 78 C326:=by
 refine fitE [(108,C33),(111,C36)] (by simp only [List.mem_cons,List.not_mem_nil,or_false]; rintro _ (rfl|rfl) <;> first|exact F33|exact F36) Tryz.f78 ⟨rfl,by decide +kernel,by decide +kernel⟩ (fun _ _ _ hk h=>hk _ h) ?_
 rintro ⟨⟨p,bs⟩,t⟩ K hI h
 refine ⟨Nat.le_of_ble_eq_true rfl,?_⟩
 dsimp only [enH] at h hI ⊢
 repeat' (first|refine vz ?_|(conv=>whnf); first|with_reducible first|refine Sp.mk ?_ ?_|refine br_d (fun _=>?_) fun _=>?_|refine vM (fun _=>?_) fun _=>?_)
 refine ⟨(⟨p,bs⟩,t),?_,⟨hI⟩,?_⟩
 ·exact wq
 repeat' (first|refine vz ?_|(conv=>whnf); first|with_reducible first|refine Sp.mk ?_ ?_|refine br_d (fun _=>?_) fun _=>?_|refine vM (fun _=>?_) fun _=>?_)
 ·rename_i hO
  have hO':termOk ⟨p,bs⟩ t:=hO
  have pp:people p:=hO'.1.1
  have hp:=pw_le pp
  have hp1:=pp.1
  have hp6:=pp.2
  rw [if_pos hO'] at h
  repeat' (first|refine vz ?_|(conv=>whnf); first|with_reducible refine Wr.ex (wsh pp) ?_|with_reducible refine Wr.ex (wi64 (by rw [pw_sh pp]; omega) (by rw [pw_sh pp]; omega)) ?_|with_reducible first|refine Sp.mk ?_ ?_|refine br_d (fun _=>?_) fun _=>?_|refine vM (fun _=>?_) fun _=>?_)
  refine Lp.mk ⟨Nat,fun i=>[(1,slM t),(2,.ptr 0 0),(5,.int .i64 (needF p bs t i)),(6,.int .i64 (full p)),(7,.int .i64 i)],
   fun _=>[.box [.int .i64 p,slI bs]],fun i=>i≤p.toNat,fun i=>p.toNat-i,⟨0,Nat.zero_le _,⟨⟨[some 0],[],rfl,rfl,?_,?_⟩⟩⟩,?_⟩
  ·repeat' ((conv=>whnf); first|with_reducible exact True.intro|exact vW|with_reducible refine And.intro ?_ ?_)
   all_goals exact Chk.mk (by rw [pw_sh pp]; rfl)
  ·exact wq
  intro i i1
  dsimp only
  have hl:=need_lt (p:=p) (bs:=bs) (t:=t) i (by omega)
  repeat' (first|refine vz ?_|(conv=>whnf); first|with_reducible first|refine Sp.mk ?_ ?_|refine br_d (fun _=>?_) fun _=>?_|refine vM (fun _=>?_) fun _=>?_)
  ·rename_i hi
   have hx:=xor_who pp (k:=i) (by omega)
   have hw:=shw_nat (k:=i) (by omega)
   refine Dr.mk ⟨(.rd 0 (.rd 1 (.rd 2 (.rd 3 (.rd 4 (.rd 5 (.ef 6 (.rd 7 .dn) .no))))))),by decide +kernel,?_⟩
   repeat' (first|refine vz ?_|(conv=>whnf); first|with_reducible refine Wr.ex (wshw (by omega) (by omega)) ?_|with_reducible refine Wr.ex (wi64 (by rw [hw]; omega) (by rw [hw]; omega)) ?_|with_reducible first|refine Sp.mk ?_ ?_|refine br_d (fun _=>?_) fun _=>?_|refine vM (fun _=>?_) fun _=>?_)
   refine ⟨⟨p,bs,t,full p-((2 ^ i:Nat):Int)⟩,?_,⟨sayOk_of hO' _ hx.2.1 hx.2.2⟩,?_⟩
   ·repeat' ((conv=>whnf); first|with_reducible exact True.intro|exact vW|with_reducible refine And.intro ?_ ?_)
    all_goals exact Chk.mk (by rw [hw])
   dsimp only
   repeat' (first|refine vz ?_|(conv=>whnf); first|with_reducible refine Wr.ex (wshw (by omega) (by omega)) ?_|with_reducible first|refine Sp.mk ?_ ?_|refine br_d (fun _=>?_) fun _=>?_|refine vM (fun _=>?_) fun _=>?_)
   ·rename_i hv
    refine ⟨i+1,by show i+1≤p.toNat; omega,by show p.toNat-(i+1)<p.toNat-i; omega,⟨⟨[some 0],[],rfl,rfl,?_,?_⟩⟩⟩
    ·repeat' ((conv=>whnf); first|with_reducible exact True.intro|exact vW|with_reducible refine And.intro ?_ ?_)
     all_goals exact Chk.mk (by rw [needF,if_pos hv])
    ·exact wq
   ·rename_i hv
    refine ⟨i+1,by show i+1≤p.toNat; omega,by show p.toNat-(i+1)<p.toNat-i; omega,⟨⟨[some 0],[],rfl,rfl,?_,?_⟩⟩⟩
    ·repeat' ((conv=>whnf); first|with_reducible exact True.intro|exact vW|with_reducible refine And.intro ?_ ?_)
     all_goals exact Chk.mk (by rw [needF,if_neg (by rw [hv]; exact Bool.false_ne_true)]; rfl)
    ·exact wq
  ·rw [show i=p.toNat by omega]
   exact h
 ·rename_i hO
  rw [if_neg (show ¬ termOk ⟨p,bs⟩ t from hO)] at h
  exact h
theorem sameU_succ {bs:List Int} {t:List Mark} {w:Int} {n:Nat}:sameU bs t w (n+1)=(sameU bs t w n && (says bs n t == says bs (add n w) t)):=rall_succ n
def C327:List AV→(AV→Prop)→Prop:=con (X:=House × List Mark) (fun x=>[enH x.1,slM x.2]) (fun x=>termI x.1 x.2) fun x K=>K (.int .i64 (if termOk x.1 x.2 then idleF x.1.bs x.2 (pw x.1.p).toNat x.1.p.toNat else -1))
theorem F327:FF 79 C327:=by
 refine fitE [(108,C33),(111,C36)] (by simp only [List.mem_cons,List.not_mem_nil,or_false]; rintro _ (rfl|rfl) <;> first|exact F33|exact F36) Tryz.f79 ⟨rfl,by decide +kernel,by decide +kernel⟩ (fun _ _ _ hk h=>hk _ h) ?_
 rintro ⟨⟨p,bs⟩,t⟩ K hI h
 refine ⟨Nat.le_of_ble_eq_true rfl,?_⟩
 dsimp only [enH] at h hI ⊢
 repeat' (first|refine vz ?_|(conv=>whnf); first|with_reducible first|refine Sp.mk ?_ ?_|refine br_d (fun _=>?_) fun _=>?_|refine vM (fun _=>?_) fun _=>?_)
 refine ⟨(⟨p,bs⟩,t),?_,⟨hI⟩,?_⟩
 ·exact wq
 repeat' (first|refine vz ?_|(conv=>whnf); first|with_reducible first|refine Sp.mk ?_ ?_|refine br_d (fun _=>?_) fun _=>?_|refine vM (fun _=>?_) fun _=>?_)
 ·rename_i hO
  have hO':termOk ⟨p,bs⟩ t:=hO
  have pp:people p:=hO'.1.1
  have hp:=pw_le pp
  have hp1:=pp.1
  have hp6:=pp.2
  rw [if_pos hO'] at h
  refine Lp.mk ⟨Nat,fun i=>[(1,slM t),(2,.ptr 0 0),(5,.int .i64 (idleF bs t (pw p).toNat i)),(6,.int .i64 i)],
   fun _=>[.box [.int .i64 p,slI bs]],fun i=>i≤p.toNat,fun i=>p.toNat-i,⟨0,Nat.zero_le _,⟨⟨[some 0],[],rfl,rfl,?_,?_⟩⟩⟩,?_⟩
  ·exact wq
  ·exact wq
  intro i i1
  dsimp only
  have hl:=idle_lt bs t (pw p).toNat i (by omega)
  repeat' (first|refine vz ?_|(conv=>whnf); first|with_reducible first|refine Sp.mk ?_ ?_|refine br_d (fun _=>?_) fun _=>?_|refine vM (fun _=>?_) fun _=>?_)
  ·rename_i hi
   refine Lp.mk ⟨Nat,fun j=>[(1,slM t),(2,.ptr 0 0),(5,.int .i64 (idleF bs t (pw p).toNat i)),(6,.int .i64 i),(7,.bool (sameU bs t i j)),(8,.int .i64 j)],
    fun _=>[.box [.int .i64 p,slI bs]],fun j=>j≤(pw p).toNat,fun j=>(pw p).toNat-j,⟨0,Nat.zero_le _,⟨⟨[some 0],[],rfl,rfl,?_,?_⟩⟩⟩,?_⟩
   ·exact wq
   ·exact wq
   intro j j1
   dsimp only
   repeat' (first|refine vz ?_|(conv=>whnf); first|with_reducible refine Wr.ex (wsh pp) ?_|with_reducible refine Wr.ex (wshw (by omega) (by omega)) ?_|with_reducible first|refine Sp.mk ?_ ?_|refine br_d (fun _=>?_) fun _=>?_|refine vM (fun _=>?_) fun _=>?_)
   ·rename_i hj
    rw [pw_sh pp] at hj
    have ga:=add_lt (c:=(j:Int)) (w:=(i:Int)) (by omega) (by omega) (by omega) (by omega)
    have e:=sameU_succ (bs:=bs) (t:=t) (w:=(i:Int)) (n:=j)
    refine Dr.mk ⟨(.rd 0 (.rd 1 (.rd 2 (.rd 3 (.rd 4 (.rd 6 (.rd 7 (.rd 8 (.rd 9 (.rd 10 (.rd 11 (.ef 5 (.ef 12 (.rd 13 (.rd 14 (.rd 15 .dn))) .no) .no)))))))))))),by decide +kernel,?_⟩
    repeat' (first|refine vz ?_|(conv=>whnf); first|with_reducible refine Wr.ex (wshw (by omega) (by omega)) ?_|with_reducible first|refine Sp.mk ?_ ?_|refine br_d (fun _=>?_) fun _=>?_|refine vM (fun _=>?_) fun _=>?_)
    ·rename_i hs
     rw [hs,Bool.true_and] at e
     refine ⟨⟨p,bs,t,j⟩,?_,⟨sayOk_of hO' _ (by omega) (by omega)⟩,?_⟩
     ·exact wq
     dsimp only
     repeat' (first|refine vz ?_|(conv=>whnf); first|with_reducible refine Wr.ex (wshw (by omega) (by omega)) ?_|with_reducible first|refine Sp.mk ?_ ?_|refine br_d (fun _=>?_) fun _=>?_|refine vM (fun _=>?_) fun _=>?_)
     refine ⟨⟨p,bs,t,add j i⟩,?_,⟨sayOk_of hO' _ ga.1 ga.2⟩,?_⟩
     ·exact wq
     dsimp only
     repeat' (first|refine vz ?_|(conv=>whnf); first|with_reducible first|refine Sp.mk ?_ ?_|refine br_d (fun _=>?_) fun _=>?_|refine vM (fun _=>?_) fun _=>?_)
     refine ⟨j+1,by show j+1≤(pw p).toNat; omega,by show (pw p).toNat-(j+1)<(pw p).toNat-j; omega,⟨⟨[some 0],[],rfl,rfl,?_,?_⟩⟩⟩
     ·rw [e]
      repeat' ((conv=>whnf); first|with_reducible exact True.intro|exact vW|with_reducible refine And.intro ?_ ?_)
     ·exact wq
    ·rename_i hs
     rw [hs,Bool.false_and] at e
     refine ⟨j+1,by show j+1≤(pw p).toNat; omega,by show (pw p).toNat-(j+1)<(pw p).toNat-j; omega,⟨⟨[some 0],[],rfl,rfl,?_,?_⟩⟩⟩
     ·rw [e]
      rw [hs]
      repeat' ((conv=>whnf); first|with_reducible exact True.intro|exact vW|with_reducible refine And.intro ?_ ?_)
     ·exact wq
   ·rename_i hj hs
    rw [pw_sh pp] at hj
    rw [show j=(pw p).toNat by omega,same_idle hO' (w:=i) (by omega)] at hs
    have hs':=of_decide_eq_true hs
    refine ⟨i+1,by show i+1≤p.toNat; omega,by show p.toNat-(i+1)<p.toNat-i; omega,⟨⟨[some 0],[],rfl,rfl,?_,?_⟩⟩⟩
    ·repeat' ((conv=>whnf); first|with_reducible exact True.intro|exact vW|with_reducible refine And.intro ?_ ?_)
     all_goals exact Chk.mk (by rw [idleF,if_pos hs']; rfl)
    ·exact wq
   ·rename_i hj hs
    rw [pw_sh pp] at hj
    rw [show j=(pw p).toNat by omega,same_idle hO' (w:=i) (by omega)] at hs
    have hs':=of_decide_eq_false hs
    refine ⟨i+1,by show i+1≤p.toNat; omega,by show p.toNat-(i+1)<p.toNat-i; omega,⟨⟨[some 0],[],rfl,rfl,?_,?_⟩⟩⟩
    ·repeat' ((conv=>whnf); first|with_reducible exact True.intro|exact vW|with_reducible refine And.intro ?_ ?_)
     all_goals exact Chk.mk (by rw [idleF,if_neg hs'])
    ·exact wq
  ·rw [show i=p.toNat by omega]
   exact h
 ·rename_i hO
  rw [if_neg (show ¬ termOk ⟨p,bs⟩ t from hO)] at h
  exact h
open Classical in
def C329:List AV→(AV→Prop)→Prop:=con (X:=House × List Mark) (fun x=>[enH x.1,slM x.2]) (fun x=>termI x.1 x.2) fun x K=>K (.bool (decide (termOk x.1 x.2) && decB x.1.p x.1.bs x.2 (pw x.1.p).toNat))
theorem F329:FF 83 C329:=by
 refine fitE [(108,C33),(111,C36)] (by simp only [List.mem_cons,List.not_mem_nil,or_false]; rintro _ (rfl|rfl) <;> first|exact F33|exact F36) Tryz.f83 ⟨rfl,by decide +kernel,by decide +kernel⟩ (fun _ _ _ hk h=>hk _ h) ?_
 rintro ⟨⟨p,bs⟩,t⟩ K hI h
 refine ⟨Nat.le_of_ble_eq_true rfl,?_⟩
 dsimp only [enH] at h hI ⊢
 repeat' (first|refine vz ?_|(conv=>whnf); first|with_reducible first|refine Sp.mk ?_ ?_|refine br_d (fun _=>?_) fun _=>?_|refine vM (fun _=>?_) fun _=>?_)
 refine Lp.mk ⟨Nat,fun i=>[(1,slM t),(2,.ptr 0 0),(5,.int .i64 i)],
  fun _=>[.box [.int .i64 p,slI bs]],fun i=>i≤(pw p).toNat∧decB p bs t i=true,fun i=>(pw p).toNat-i,⟨0,⟨Nat.zero_le _,rfl⟩,⟨⟨[some 0],[],rfl,rfl,?_,?_⟩⟩⟩,?_⟩
 ·exact wq
 ·exact wq
 rintro i ⟨i1,i2⟩
 dsimp only
 repeat' (first|refine vz ?_|(conv=>whnf); first|with_reducible first|refine Sp.mk ?_ ?_|refine br_d (fun _=>?_) fun _=>?_|refine vM (fun _=>?_) fun _=>?_)
 refine ⟨(⟨p,bs⟩,t),?_,⟨hI⟩,?_⟩
 ·exact wq
 by_cases hO:termOk ⟨p,bs⟩ t
 ·have pp:people p:=hO.1.1
  have hp:=pw_le pp
  have hp1:=pp.1
  have hp6:=pp.2
  dsimp only
  rw [decide_eq_true hO]
  rw [decide_eq_true hO,Bool.true_and] at h
  repeat' (first|refine vz ?_|(conv=>whnf); first|with_reducible refine Wr.ex (wsh pp) ?_|with_reducible first|refine Sp.mk ?_ ?_|refine br_d (fun _=>?_) fun _=>?_|refine vM (fun _=>?_) fun _=>?_)
  ·rename_i hi
   rw [pw_sh pp] at hi
   have hx:=xor_all pp (c:=i) (by omega)
   have ds:=decB_succ (p:=p) (bs:=bs) (t:=t) (n:=i)
   rw [i2,Bool.true_and] at ds
   refine Dr.mk ⟨(.rd 0 (.rd 1 (.rd 2 (.rd 4 (.rd 5 (.rd 6 (.rd 7 (.rd 8 (.rd 9 (.rd 10 (.rd 11 (.ef 3 (.ef 12 (.rd 13 .dn) .no) .no)))))))))))),by decide +kernel,?_⟩
   repeat' (first|refine vz ?_|(conv=>whnf); first|with_reducible refine Wr.ex (wsh pp) ?_|with_reducible refine Wr.ex (wi64 (by rw [pw_sh pp]; omega) (by rw [pw_sh pp]; omega)) ?_|with_reducible first|refine Sp.mk ?_ ?_|refine br_d (fun _=>?_) fun _=>?_|refine vM (fun _=>?_) fun _=>?_)
   refine ⟨⟨p,bs,t,i⟩,?_,⟨sayOk_of hO _ (by omega) (by omega)⟩,?_⟩
   ·exact wq
   dsimp only
   repeat' (first|refine vz ?_|(conv=>whnf); first|with_reducible refine Wr.ex (wsh pp) ?_|with_reducible refine Wr.ex (wi64 (by rw [pw_sh pp]; omega) (by rw [pw_sh pp]; omega)) ?_|with_reducible first|refine Sp.mk ?_ ?_|refine br_d (fun _=>?_) fun _=>?_|refine vM (fun _=>?_) fun _=>?_)
   refine ⟨⟨p,bs,t,full p-i⟩,?_,⟨sayOk_of hO _ hx.2.1 hx.2.2⟩,?_⟩
   ·repeat' ((conv=>whnf); first|with_reducible exact True.intro|exact vW|with_reducible refine And.intro ?_ ?_)
    all_goals exact Chk.mk (by rw [pw_sh pp]; rfl)
   dsimp only
   repeat' (first|refine vz ?_|(conv=>whnf); first|with_reducible first|refine Sp.mk ?_ ?_|refine br_d (fun _=>?_) fun _=>?_|refine vM (fun _=>?_) fun _=>?_)
   ·rename_i hv
    have e:decB p bs t (i+1)=false:=by rw [ds,hv]; simp
    rw [decB_le (by omega) e] at h
    exact h
   ·rename_i hv
    have e:decB p bs t (i+1)=true:=by rw [ds]; simpa using hv
    refine ⟨i+1,⟨by show i+1≤(pw p).toNat; omega,e⟩,by show (pw p).toNat-(i+1)<(pw p).toNat-i; omega,⟨⟨[some 0],[],rfl,rfl,?_,?_⟩⟩⟩
    ·exact wq
    ·exact wq
  ·rename_i hi
   rw [pw_sh pp] at hi
   rw [show (pw p).toNat=i by omega,i2] at h
   repeat' (first|refine vz ?_|(conv=>whnf); first|with_reducible first|refine Sp.mk ?_ ?_|refine br_d (fun _=>?_) fun _=>?_|refine vM (fun _=>?_) fun _=>?_)
   refine ⟨(⟨p,bs⟩,t),?_,⟨hI⟩,?_⟩
   ·exact wq
   dsimp only
   rw [decide_eq_true hO]
   repeat' (first|refine vz ?_|(conv=>whnf); first|with_reducible first|refine Sp.mk ?_ ?_|refine br_d (fun _=>?_) fun _=>?_|refine vM (fun _=>?_) fun _=>?_)
   exact h
 ·dsimp only
  rw [decide_eq_false hO]
  rw [decide_eq_false hO,Bool.false_and] at h
  repeat' (first|refine vz ?_|(conv=>whnf); first|with_reducible first|refine Sp.mk ?_ ?_|refine br_d (fun _=>?_) fun _=>?_|refine vM (fun _=>?_) fun _=>?_)
  refine ⟨(⟨p,bs⟩,t),?_,⟨hI⟩,?_⟩
  ·exact wq
  dsimp only
  rw [decide_eq_false hO]
  repeat' (first|refine vz ?_|(conv=>whnf); first|with_reducible first|refine Sp.mk ?_ ?_|refine br_d (fun _=>?_) fun _=>?_|refine vM (fun _=>?_) fun _=>?_)
  exact h
open Classical in
def C330:List AV→(AV→Prop)→Prop:=con (X:=House × List Mark) (fun x=>[enH x.1,slM x.2]) (fun x=>termI x.1 x.2) fun x K=>K (.bool (decide (termOk x.1 x.2) && claB x.1.p x.1.bs x.2 (pw x.1.p).toNat))
theorem F330:FF 84 C330:=by
 refine fitE [(108,C33),(111,C36)] (by simp only [List.mem_cons,List.not_mem_nil,or_false]; rintro _ (rfl|rfl) <;> first|exact F33|exact F36) Tryz.f84 ⟨rfl,by decide +kernel,by decide +kernel⟩ (fun _ _ _ hk h=>hk _ h) ?_
 rintro ⟨⟨p,bs⟩,t⟩ K hI h
 refine ⟨Nat.le_of_ble_eq_true rfl,?_⟩
 dsimp only [enH] at h hI ⊢
 repeat' (first|refine vz ?_|(conv=>whnf); first|with_reducible first|refine Sp.mk ?_ ?_|refine br_d (fun _=>?_) fun _=>?_|refine vM (fun _=>?_) fun _=>?_)
 refine Lp.mk ⟨Nat,fun i=>[(1,slM t),(2,.ptr 0 0),(5,.int .i64 i)],
  fun _=>[.box [.int .i64 p,slI bs]],fun i=>i≤(pw p).toNat∧claB p bs t i=false,fun i=>(pw p).toNat-i,⟨0,⟨Nat.zero_le _,rfl⟩,⟨⟨[some 0],[],rfl,rfl,?_,?_⟩⟩⟩,?_⟩
 ·exact wq
 ·exact wq
 rintro i ⟨i1,i2⟩
 dsimp only
 repeat' (first|refine vz ?_|(conv=>whnf); first|with_reducible first|refine Sp.mk ?_ ?_|refine br_d (fun _=>?_) fun _=>?_|refine vM (fun _=>?_) fun _=>?_)
 refine ⟨(⟨p,bs⟩,t),?_,⟨hI⟩,?_⟩
 ·exact wq
 by_cases hO:termOk ⟨p,bs⟩ t
 ·have pp:people p:=hO.1.1
  have hp:=pw_le pp
  have hp1:=pp.1
  have hp6:=pp.2
  dsimp only
  rw [decide_eq_true hO]
  rw [decide_eq_true hO,Bool.true_and] at h
  repeat' (first|refine vz ?_|(conv=>whnf); first|with_reducible refine Wr.ex (wsh pp) ?_|with_reducible first|refine Sp.mk ?_ ?_|refine br_d (fun _=>?_) fun _=>?_|refine vM (fun _=>?_) fun _=>?_)
  ·rename_i hi
   rw [pw_sh pp] at hi
   have hx:=xor_all pp (c:=i) (by omega)
   have ds:=claB_succ (p:=p) (bs:=bs) (t:=t) (n:=i)
   rw [i2,Bool.false_or] at ds
   refine Dr.mk ⟨(.rd 0 (.rd 1 (.rd 2 (.ef 3 (.rd 4 (.rd 5 (.rd 6 (.rd 7 (.rd 8 (.rd 9 (.rd 10 (.rd 11 (.rd 12 (.ef 13 (.rd 14 .dn) .no)))))))))) .no)))),by decide +kernel,?_⟩
   repeat' (first|refine vz ?_|(conv=>whnf); first|with_reducible refine Wr.ex (wsh pp) ?_|with_reducible refine Wr.ex (wi64 (by rw [pw_sh pp]; omega) (by rw [pw_sh pp]; omega)) ?_|with_reducible first|refine Sp.mk ?_ ?_|refine br_d (fun _=>?_) fun _=>?_|refine vM (fun _=>?_) fun _=>?_)
   refine ⟨⟨p,bs,t,i⟩,?_,⟨sayOk_of hO _ (by omega) (by omega)⟩,?_⟩
   ·exact wq
   dsimp only
   repeat' (first|refine vz ?_|(conv=>whnf); first|with_reducible refine Wr.ex (wsh pp) ?_|with_reducible refine Wr.ex (wi64 (by rw [pw_sh pp]; omega) (by rw [pw_sh pp]; omega)) ?_|with_reducible first|refine Sp.mk ?_ ?_|refine br_d (fun _=>?_) fun _=>?_|refine vM (fun _=>?_) fun _=>?_)
   ·rename_i hv
    rw [hv,Bool.true_and] at ds
    refine ⟨⟨p,bs,t,full p-i⟩,?_,⟨sayOk_of hO _ hx.2.1 hx.2.2⟩,?_⟩
    ·repeat' ((conv=>whnf); first|with_reducible exact True.intro|exact vW|with_reducible refine And.intro ?_ ?_)
     all_goals exact Chk.mk (by rw [pw_sh pp]; rfl)
    dsimp only
    repeat' (first|refine vz ?_|(conv=>whnf); first|with_reducible first|refine Sp.mk ?_ ?_|refine br_d (fun _=>?_) fun _=>?_|refine vM (fun _=>?_) fun _=>?_)
    ·rename_i hv2
     rw [hv2] at ds
     rw [claB_le (by omega) ds] at h
     exact h
    ·rename_i hv2
     rw [hv2] at ds
     refine ⟨i+1,⟨by show i+1≤(pw p).toNat; omega,ds⟩,by show (pw p).toNat-(i+1)<(pw p).toNat-i; omega,⟨⟨[some 0],[],rfl,rfl,?_,?_⟩⟩⟩
     ·exact wq
     ·exact wq
   ·rename_i hv
    rw [hv,Bool.false_and] at ds
    refine ⟨i+1,⟨by show i+1≤(pw p).toNat; omega,ds⟩,by show (pw p).toNat-(i+1)<(pw p).toNat-i; omega,⟨⟨[some 0],[],rfl,rfl,?_,?_⟩⟩⟩
    ·exact wq
    ·exact wq
  ·rename_i hi
   rw [pw_sh pp] at hi
   rw [show (pw p).toNat=i by omega,i2] at h
   repeat' (first|refine vz ?_|(conv=>whnf); first|with_reducible first|refine Sp.mk ?_ ?_|refine br_d (fun _=>?_) fun _=>?_|refine vM (fun _=>?_) fun _=>?_)
   exact h
 ·dsimp only
  rw [decide_eq_false hO]
  rw [decide_eq_false hO,Bool.false_and] at h
  repeat' (first|refine vz ?_|(conv=>whnf); first|with_reducible first|refine Sp.mk ?_ ?_|refine br_d (fun _=>?_) fun _=>?_|refine vM (fun _=>?_) fun _=>?_)
  exact h
end Go.Proofs.YtgdbhjmpkkbnnaaGreatDoor.Vc
end
section
/- Part QB: the reference's digits, told whole. -/
namespace Go.Proofs.YtgdbhjmpkkbnnaaGreatDoor.Vc
open Go.Proofs
set_option maxRecDepth 10000
set_option maxHeartbeats 4000000
theorem dig_of {b:UInt8} (h:digB b):UInt8.ofNat (48+(b.toNat-48))=b:=by
 unfold digB at h
 apply UInt8.toNat_inj.1
 rw [UInt8.toNat_ofNat']
 omega
theorem dec_of:∀ (k:Nat) (l:List UInt8),l.length=k+1→(∀ b∈l,digB b)→(k=0∨l.head?≠some 48)→Lib.decDigits (valL 0 l)=l:=by
 intro k
 induction k with
 |zero =>
  intro l hl hd _
  match l,hl with
  |[b],_ =>
   have hb:=hd b List.mem_cons_self
   have e:=dig_of hb
   unfold digB at hb
   show Lib.decDigits (0*10+(b.toNat-48))=[b]
   rw [Lib.decDigits,dif_pos (by omega),Nat.zero_mul,Nat.zero_add,e]
 |succ k ih =>
  intro l hl hd hh
  replace hh:l.head?≠some 48:=hh.resolve_left (by omega)
  obtain ⟨l',b,rfl⟩:∃ l' b,l=l' ++ [b]:=⟨l.dropLast,l.getLast (by intro e; rw [e] at hl; simp at hl),(List.dropLast_concat_getLast _).symm⟩
  have hl':l'.length=k+1:=by rw [List.length_append] at hl; simpa using hl
  have hh':l'.head?≠some 48:=by
   cases l' with
   |nil=>simp at hl'
   |cons c r=>simpa using hh
  have e:=ih l' hl' (fun c hc=>hd c (List.mem_append_left _ hc)) (.inr hh')
  have hb:=hd b (List.mem_append_right _ List.mem_cons_self)
  have e2:=dig_of hb
  unfold digB at hb
  have hv:valL 0 (l' ++ [b])=valL 0 l'*10+(b.toNat-48):=by rw [valL_app]; rfl
  have h1:1≤valL 0 l':=by
   rcases Nat.eq_zero_or_pos (valL 0 l') with h0|h0
   ·rw [h0,Lib.decDigits] at e
    rw [dif_pos (by omega)] at e
    rw [← e] at hh'
    exact absurd rfl hh'
   ·exact h0
  rw [hv,Lib.decDigits,dif_neg (by omega),show (valL 0 l'*10+(b.toNat-48)) / 10=valL 0 l' by omega,show (valL 0 l'*10+(b.toNat-48)) % 10=b.toNat-48 by omega,e,e2]
def digV (s:ByteArray):Int:=if isNum s=true then (valL 0 s.data.toList:Nat) else -1
theorem digV_of {s:ByteArray} (h1:1≤s.size∧s.size≤6) (hd:∀ b∈s.data.toList,digB b) (h0:s.size=1∨¬ bt s 0=48) (hv:valL 0 s.data.toList<1000000):digV s=(valL 0 s.data.toList:Nat):=by
 have hlen:s.data.toList.length=s.size:=Array.length_toList
 have e:=dec_of (s.size-1) s.data.toList (by omega) hd (by
  rcases h0 with h0|h0
  ·exact .inl (by omega)
  ·refine .inr fun q=>h0 ?_
   obtain ⟨b,e1,e2⟩:=drop_bt (s:=s) (i:=0) (by omega)
   rw [List.drop_zero] at e2
   rw [e2] at q
   have:b=48:=by simpa using q
   have e3:bt s ((0:Nat):Int).toNat=(b.toNat:Int):=e1
   show bt s 0=48
   rw [show bt s 0=(b.toNat:Int) from e3,this]
   rfl)
 have hn:isNum s=true:=by
  unfold isNum
  refine decide_eq_true ⟨hv,?_⟩
  apply ByteArray.ext
  apply Array.toList_inj.1
  rw [num_list,e]
 unfold digV
 rw [if_pos hn]
theorem digV_num {n:Nat} (h:n<1000000):digV (num (n:Int))=n:=by
 unfold digV
 rw [if_pos (isNum_num h),num_val]
theorem digV_no {s:ByteArray} (h:∀ n:Nat,n<1000000→s=num n→False):digV s=-1:=by
 unfold digV
 rw [isNum_no fun ⟨n,h1,h2⟩=>h n h1 h2,if_neg Bool.false_ne_true]
theorem digV_lt (s:ByteArray):-1≤digV s∧digV s<1000000:=by
 unfold digV
 split
 ·rename_i h
  have:=(of_decide_eq_true h).1
  omega
 ·omega
theorem digV_isNum {s:ByteArray}:0≤digV s ↔ isNum s=true:=by
 unfold digV
 split
 ·rename_i h; exact ⟨fun _=>h,fun _=>by omega⟩
 ·rename_i h; exact ⟨fun q=>by omega,fun q=>absurd q h⟩
def C216s:List AV→(AV→Prop)→Prop:=con (X:=ByteArray) (fun s=>[.str s]) (fun s=>s.size<9223372036854775808) fun s K=>K (.int .i64 (digV s))
theorem F216s:FF 43 C216s:=by
 refine fitE [(74,C35)] (by simp only [List.mem_cons,List.not_mem_nil,or_false]; rintro _ rfl <;> first|exact F35) Tryz.f43 ⟨rfl,by decide +kernel,by decide +kernel⟩ (fun _ _ _ hk h=>hk _ h) ?_
 rintro s K hs h
 refine ⟨Nat.le_of_ble_eq_true rfl,?_⟩
 repeat' (first|refine vz ?_|(conv=>whnf); first|with_reducible first|refine Sp.mk ?_ ?_|refine br_d (fun _=>?_) fun _=>?_|refine vM (fun _=>?_) fun _=>?_)
 refine ⟨((s.size:Int),1,6),?_,⟨trivial⟩,?_⟩
 ·exact wq
 dsimp only
 have hno:(∀ n:Nat,n<1000000→s=num n→False)→K (.int .i64 (-1)):=fun hn=>digV_no hn ▸ h
 apply later
 ·intro key
  repeat' (first|refine vz ?_|(conv=>whnf); first|with_reducible first|refine Sp.mk ?_ ?_|refine br_d (fun _=>?_) fun _=>?_|refine vM (fun _=>?_) fun _=>?_)
  ·rename_i q1 q2 q3
   refine hno fun n hn e=>?_
   subst e
   exact num_0 (by omega) q3
  ·rename_i q1 q2 q3
   replace q1:(1≤s.size∧s.size≤6)∧(s.size=1∨¬ bt s 0=48):=⟨by omega,.inr q3⟩
   clear q2 q3
   refine Lp.mk ⟨Nat,fun i=>[(0,.str s),(3,.int .i64 (valL 0 (s.data.toList.take i):Nat)),(4,.int .i64 i)],fun _=>[],fun i=>(i≤s.size∧valL 0 (s.data.toList.take i)+1≤10 ^ i)∧∀ b∈s.data.toList.take i,digB b,fun i=>s.size-i,⟨0,⟨⟨Nat.zero_le _,Nat.le_refl _⟩,fun b hb=>by cases hb⟩,⟨⟨[],[],rfl,rfl,?_,?_⟩⟩⟩,?_⟩
   ·exact wq
   ·exact wq
   revert q1
   exact key.t
  ·rename_i q1 q2
   replace q1:(1≤s.size∧s.size≤6)∧(s.size=1∨¬ bt s 0=48):=⟨by omega,.inl (by omega)⟩
   clear q2
   refine Lp.mk ⟨Nat,fun i=>[(0,.str s),(3,.int .i64 (valL 0 (s.data.toList.take i):Nat)),(4,.int .i64 i)],fun _=>[],fun i=>(i≤s.size∧valL 0 (s.data.toList.take i)+1≤10 ^ i)∧∀ b∈s.data.toList.take i,digB b,fun i=>s.size-i,⟨0,⟨⟨Nat.zero_le _,Nat.le_refl _⟩,fun b hb=>by cases hb⟩,⟨⟨[],[],rfl,rfl,?_,?_⟩⟩⟩,?_⟩
   ·exact wq
   ·exact wq
   revert q1
   exact key.t
  ·rename_i q1
   refine hno fun n hn e=>q1 ?_
   subst e
   have:=num_len hn
   omega
 rintro ⟨⟨h1,h6⟩,h0⟩ i ⟨⟨i1,i2⟩,i3⟩
 have ip:10 ^ i≤10 ^ 6:=Nat.pow_le_pow_right (by decide) (by omega)
 have ip':(10:Nat) ^ 6=1000000:=by decide
 dsimp only
 by_cases hi:i<s.size
 ·obtain ⟨b,e1,e2,e3⟩:=take_bt hi
  have hv:=val_step e3
  have hb:=b.toNat_lt
  have e1':bt s (i:Int).toNat=(b.toNat:Int):=e1
  have hbad:¬ digB b→K (.int .i64 (-1)):=fun hd=>hno fun n hn e=>hd (by subst e; rw [num_list] at e2; exact dec_dig n b e2)
  repeat' (first|refine vz ?_|(conv=>whnf); first|with_reducible first|refine Sp.mk ?_ ?_|refine br_d (fun _=>?_) fun _=>?_|refine vM (fun _=>?_) fun _=>?_)
  ·exact hbad fun q=>by unfold digB at q; omega
  ·exact hbad fun q=>by unfold digB at q; omega
  ·refine ⟨i+1,⟨⟨by omega,by rw [hv,Nat.pow_succ]; omega⟩,fun c hc=>?_⟩,by omega,⟨⟨[],[],rfl,rfl,?_,?_⟩⟩⟩
   ·rw [e3] at hc
    rcases List.mem_append.1 hc with hc|hc
    ·exact i3 c hc
    ·rw [List.mem_singleton] at hc
     subst hc
     unfold digB
     omega
   ·exact wq
   ·exact wq
 ·obtain rfl:i=s.size:=by omega
  have ht:s.data.toList.take s.size=s.data.toList:=List.take_of_length_le (by rw [Array.length_toList]; exact Nat.le_refl _)
  rw [ht] at i2 i3 ⊢
  rw [digV_of ⟨h1,h6⟩ i3 h0 (by omega)] at h
  repeat' (first|refine vz ?_|(conv=>whnf); first|with_reducible first|refine Sp.mk ?_ ?_|refine br_d (fun _=>?_) fun _=>?_|refine vM (fun _=>?_) fun _=>?_)
  exact h
end Go.Proofs.YtgdbhjmpkkbnnaaGreatDoor.Vc
end
section
/- Part ZT0: duals (with swings). -/
end
section
/- Part YL: laws on stores: plain. -/
namespace Go.Proofs.YtgdbhjmpkkbnnaaGreatDoor.Vc
open Go.Proofs
set_option maxRecDepth 10000
set_option maxHeartbeats 4000000
/-! ### Texts of terms are short -/
theorem join2_len {k:Int} {a b:Pt}:(join2 k a b).s.size≤a.s.size+b.s.size+5:=by
 have w:∀ (s:ByteArray) (o:Bool),(wrapT s o).size≤s.size+2:=fun s o=>by
  unfold wrapT
  split
  ·rw [ByteArray.size_append,ByteArray.size_append]; show 1+s.size+1≤_; omega
  ·omega
 unfold join2
 split
 ·have:=w b.s b.o
  dsimp only
  rw [ByteArray.size_append,ByteArray.size_append]
  show a.s.size+1+_≤_
  omega
 ·have:=w b.s (decide (b.n > 1))
  have:=w a.s a.o
  dsimp only
  rw [ByteArray.size_append,ByteArray.size_append]
  show _+1+_≤_
  omega
theorem tr_size {bs:List Int} (hb:bodies bs) {t:List Mark} (h:Tr bs t):(partT t).s.size+1≤4*t.length:=by
 induction h with
 |leaf m hk h =>
  rw [partT_leaf hk]
  obtain ⟨_,_,g3,g4⟩:=leaf_in hb hk h
  have:=num_size (n:=m.need) (by omega) (by omega)
  show (letter m.at_ ++ num m.need).size+1≤4*1
  rw [ByteArray.size_append]
  show 1+_+1≤_
  omega
 |node l r k hk h1 h2 g1 g2 =>
  rw [partT_node h1.one h2.one (by dsimp only; omega)]
  have:=join2_len (k:=k) (a:=partT l) (b:=partT r)
  simp only [List.length_append,List.length_cons,List.length_nil]
  omega
theorem textT_size {h:House} {t:List Mark} (ht:termOk h t):(textT t).size≤35:=by
 have h1:=tr_size (bodies_of ht.1) (Tr.of ht.2.2)
 have h2:=ht.2.1
 unfold textT
 omega
/-! ### The dual of the first rule can be put in its place, if it is another -/
/-! ### Logs that break off -/
end Go.Proofs.YtgdbhjmpkkbnnaaGreatDoor.Vc
end
section
/- Part QC: questions about a place (plain). -/
namespace Go.Proofs.YtgdbhjmpkkbnnaaGreatDoor.Vc
set_option maxRecDepth 10000
set_option maxHeartbeats 4000000
abbrev wLeast:ByteArray:=⟨#[108,101,97,115,116]⟩
abbrev wCount:ByteArray:=⟨#[99,111,117,110,116]⟩
abbrev wNeeded:ByteArray:=⟨#[110,101,101,100,101,100]⟩
abbrev wIdle:ByteArray:=⟨#[105,100,108,101]⟩
abbrev wDual:ByteArray:=⟨#[100,117,97,108]⟩
abbrev wDecisive:ByteArray:=⟨#[100,101,99,105,115,105,118,101]⟩
abbrev wClash:ByteArray:=⟨#[99,108,97,115,104]⟩
abbrev wConsent:ByteArray:=⟨#[99,111,110,115,101,110,116]⟩
abbrev wSwings:ByteArray:=⟨#[115,119,105,110,103,115]⟩
abbrev wPivots:ByteArray:=⟨#[112,105,118,111,116,115]⟩
abbrev wWhat:ByteArray:=⟨#[119,104,97,116]⟩
abbrev wNone:ByteArray:=⟨#[110,111,110,101]⟩
abbrev wYes:ByteArray:=⟨#[121,101,115]⟩
abbrev wNo:ByteArray:=⟨#[110,111]⟩
abbrev wPlace:ByteArray:=⟨#[112,108,97,99,101]⟩
instance decMemB (w:ByteArray):(l:List ByteArray)→Decidable (w∈l)
 |[]=>isFalse (by simp)
 |v :: r=>if h:w=v then isTrue (by simp [h]) else match decMemB w r with
  |isTrue g=>isTrue (by simp [g])
  |isFalse g=>isFalse (by simp [h,g])
def onesW:List ByteArray:=[wLeast,wCount,wNeeded,wIdle,wDual,wDecisive,wClash]
def twosW:List ByteArray:=[wConsent,wSwings,wPivots]
def yn (b:Bool):ByteArray:=if b=true then wYes else wNo
def numN (n:Int):ByteArray:=if n<0 then wNone else num n
def askO (p:Int) (bs:List Int) (t:List Mark) (w:ByteArray):ByteArray :=
 if w=wLeast then listT (leastF (sayl bs t (pw p).toNat) (pw p).toNat)
 else if w=wCount then num (sayl bs t (pw p).toNat).length
 else if w=wNeeded then num (needF p bs t p.toNat)
 else if w=wIdle then num (idleF bs t (pw p).toNat p.toNat)
 else if w=wDual then textT (dualT bs t)
 else if w=wDecisive then yn (decB p bs t (pw p).toNat)
 else yn (claB p bs t (pw p).toNat)
def askT (p:Int) (bs:List Int) (t:List Mark) (w:ByteArray) (n:Int):ByteArray :=
 if w=wConsent then yn (decide (crowd p n) && says bs n t)
 else if w=wSwings then numN (swingsOf ⟨⟨p,bs⟩,t,n⟩)
 else numN (pivotsOf ⟨⟨p,bs⟩,t,n⟩)
def termR (x:Place) (i:Nat):List Mark:=(rdT 49 x.h (x.rules.getD i ⟨#[]⟩)).getD []
def askOne (x:Place) (w:ByteArray) (n:Int):ByteArray :=
 if w∈onesW then (if n<x.rules.length then askO x.p x.bs (termR x n.toNat) w else wNone) else wWhat
def askTwo (x:Place) (w:ByteArray) (n m:Int):ByteArray :=
 if w∈twosW then (if n<x.rules.length then askT x.p x.bs (termR x n.toNat) w m else wNone) else wWhat
def askL (x:Place) (L:List ByteArray):ByteArray :=
 if L.length=2∧0≤digV (L.getD 1 ⟨#[]⟩) then askOne x (L.getD 0 ⟨#[]⟩) (digV (L.getD 1 ⟨#[]⟩))
 else if L.length=3∧0≤digV (L.getD 1 ⟨#[]⟩)∧0≤digV (L.getD 2 ⟨#[]⟩) then askTwo x (L.getD 0 ⟨#[]⟩) (digV (L.getD 1 ⟨#[]⟩)) (digV (L.getD 2 ⟨#[]⟩))
 else wWhat
def askD (x:Place) (s:ByteArray):ByteArray:=if s=wPlace then plT x else askL x (cutB s 32)
/-! ### No answer is empty -/
theorem num_ne (n:Nat):num (n:Int)≠⟨#[]⟩:=fun e=>by
 have h:=num_list n
 rw [e] at h
 have:=dec_pos n
 rw [← h] at this
 exact absurd this (by decide)
theorem num_ne' {n:Int} (h:0≤n):num n≠⟨#[]⟩:=by
 have:=num_ne n.toNat
 rwa [Int.toNat_of_nonneg h] at this
theorem ba_ne {x:ByteArray}:x≠⟨#[]⟩ ↔ 0<x.size:=by
 constructor
 ·intro h
  apply Nat.pos_of_ne_zero
  intro e
  apply h
  apply ByteArray.ext
  exact Array.eq_empty_of_size_eq_zero e
 ·intro h e
  rw [e] at h
  exact absurd h (by decide)
theorem joinB_ne {x:ByteArray} {l:List ByteArray} {sep:ByteArray} (h:x≠⟨#[]⟩):joinB (x :: l) sep≠⟨#[]⟩:=by
 have key:∀ k (l:List ByteArray),l.length=k→0<(joinB (x :: l) sep).size:=by
  intro k
  induction k with
  |zero=>intro l hl; have:l=[]:=List.length_eq_zero_iff.1 hl; subst this; rw [joinB_one]; exact ba_ne.1 h
  |succ k ih =>
   intro l hl
   obtain ⟨l',b,rfl⟩:∃ l' b,l=l' ++ [b]:=⟨l.dropLast,l.getLast (by intro e; rw [e] at hl; simp at hl),(List.dropLast_concat_getLast _).symm⟩
   have h1:=ih l' (by rw [List.length_append] at hl; simpa using hl)
   have:=joinB_app (l:=x :: l') (x:=b) (sep:=sep) (List.cons_ne_nil _ _)
   rw [← List.cons_append,this,ByteArray.size_append,ByteArray.size_append]
   omega
 exact ba_ne.2 (key l.length l rfl)
theorem yn_ne (b:Bool):yn b≠⟨#[]⟩:=by
 unfold yn
 split <;> exact ba_ne.2 (by decide)
theorem numN_ne {n:Int}:numN n≠⟨#[]⟩:=by
 unfold numN
 split
 ·exact ba_ne.2 (by decide)
 ·exact num_ne' (by omega)
theorem textT_ne {h:House} {t:List Mark} (ht:termOk h t):textT t≠⟨#[]⟩:=fun e=>by
 have hb:bad h (textT t)=false:=by
  unfold bad
  rw [(rdT_iff (by decide)).2 ⟨Nat.le_trans (textT_size ht) (by decide),ht,rfl⟩]
  rfl
 rw [e,no_empty] at hb
 cases hb
theorem askT_ne (p:Int) (bs:List Int) (t:List Mark) (w:ByteArray) (n:Int):askT p bs t w n≠⟨#[]⟩:=by
 unfold askT
 split
 ·exact yn_ne _
 ·split <;> exact numN_ne
theorem askO_ne {p:Int} {bs:List Int} {t:List Mark} (ht:termOk ⟨p,bs⟩ t) (w:ByteArray):askO p bs t w≠⟨#[]⟩:=by
 unfold askO
 split
 ·have:=least_some ht
  cases hl:leastF (sayl bs t (pw p).toNat) (pw p).toNat with
  |nil=>exact absurd hl this
  |cons c r =>
   have hc:c∈leastF (sayl bs t (pw p).toNat) (pw p).toNat:=by rw [hl]; exact List.mem_cons_self
   exact joinB_ne (num_ne' (mem_cl.1 hc).1.1)
 ·split
  ·exact num_ne _
  ·split
   ·exact num_ne' (need_lt p.toNat (by have:p≤6:=ht.1.1.2; omega)).1
   ·split
    ·exact num_ne' (idle_lt _ _ _ p.toNat (by have:p≤6:=ht.1.1.2; omega)).1
    ·split
     ·exact textT_ne (termOk_dual ht)
     ·split <;> exact yn_ne _
theorem askD_ne {x:Place} (hx:placeOk x) (hr:∀ i,i<x.rules.length→termOk x.h (termR x i)) (s:ByteArray):askD x s≠⟨#[]⟩:=by
 have hw:wWhat≠⟨#[]⟩:=ba_ne.2 (by decide)
 have hn:wNone≠⟨#[]⟩:=ba_ne.2 (by decide)
 unfold askD
 split
 ·exact joinB_ne (num_ne' (by have:1≤x.p:=hx.1.1.1; omega))
 ·unfold askL
  split
  ·rename_i q
   unfold askOne
   split
   ·split
    ·exact askO_ne (hr _ (by omega)) _
    ·exact hn
   ·exact hw
  ·split
   ·unfold askTwo
    split
    ·split
     ·exact askT_ne _ _ _ _ _
     ·exact hn
    ·exact hw
   ·exact hw
end Go.Proofs.YtgdbhjmpkkbnnaaGreatDoor.Vc
end
section
/- Part QE: lines that are said to a desk (plain). -/
namespace Go.Proofs.YtgdbhjmpkkbnnaaGreatDoor.Vc
set_option maxRecDepth 10000
set_option maxHeartbeats 4000000
abbrev wOk:ByteArray:=⟨#[111,107]⟩
abbrev wNot:ByteArray:=⟨#[110,111,116]⟩
open Classical in
noncomputable def lineD (d:Desk) (s:ByteArray):Desk × ByteArray :=
 if h:∃ a,isDd s a then ((doD d (Classical.choose h)).getD d,if (doD d (Classical.choose h)).isSome then wOk else wNot) else (d,askD d.now s)
theorem lineD_deed {d:Desk} {s:ByteArray} {a:Dd} (h:isDd s a):lineD d s=((doD d a).getD d,if (doD d a).isSome then wOk else wNot):=by
 have hx:∃ a,isDd s a:=⟨a,h⟩
 unfold lineD
 rw [dif_pos hx,isDd_one (Classical.choose_spec hx) h]
theorem lineD_ask {d:Desk} {s:ByteArray} (h:¬ ∃ a,isDd s a):lineD d s=(d,askD d.now s):=by
 unfold lineD
 rw [dif_neg h]
theorem lineD_ok {d:Desk} {s:ByteArray} (h:deskOk d):deskOk (lineD d s).1:=by
 by_cases hx:∃ a,isDd s a
 ·obtain ⟨a,ha⟩:=hx
  rw [lineD_deed ha]
  cases hd:doD d a with
  |none=>exact h
  |some e=>exact doD_ok h hd
 ·rw [lineD_ask hx]
  exact h
theorem termR_ok {x:Place} (hx:placeOk x) (i:Nat) (hi:i<x.rules.length):rdT 49 x.h (x.rules.getD i ⟨#[]⟩)=some (termR x i)∧termOk x.h (termR x i):=by
 obtain ⟨t,ht⟩:=bad_term (hx.2.2 _ (getD_mem' (l:=x.rules) (i:=i) (d:=⟨#[]⟩) hi))
 have e:termR x i=t:=by unfold termR; rw [ht]; rfl
 rw [e]
 exact ⟨ht,((rdT_iff (by decide)).1 ht).2.1⟩
theorem lineD_ne {d:Desk} {s:ByteArray} (h:deskOk d):(lineD d s).2≠⟨#[]⟩:=by
 by_cases hx:∃ a,isDd s a
 ·obtain ⟨a,ha⟩:=hx
  rw [lineD_deed ha]
  dsimp only
  split <;> exact ba_ne.2 (by decide)
 ·rw [lineD_ask hx]
  exact askD_ne h.1 (fun i hi=>(termR_ok h.1 i hi).2) s
noncomputable def sayF (x:Desk × List ByteArray) (s:ByteArray):Desk × List ByteArray:=((lineD x.1 s).1,x.2 ++ [(lineD x.1 s).2])
noncomputable def sayD (d:Desk) (l:List ByteArray):Desk × List ByteArray:=l.foldl sayF (d,[])
theorem sayD_snoc (d:Desk) (l:List ByteArray) (s:ByteArray):sayD d (l ++ [s])=sayF (sayD d l) s:=by
 unfold sayD
 rw [List.foldl_append]
 rfl
theorem sayD_take {d:Desk} {l:List ByteArray} {i:Nat} (h:i<l.length):sayD d (l.take (i+1))=sayF (sayD d (l.take i)) (l.getD i ⟨#[]⟩):=by
 rw [take_succ' ⟨#[]⟩ h,sayD_snoc]
theorem sayD_ok {d:Desk} (h:deskOk d):∀ l:List ByteArray,deskOk (sayD d l).1∧(∀ x∈(sayD d l).2,x≠⟨#[]⟩)∧(sayD d l).2.length=l.length:=by
 intro l
 obtain ⟨n,hn⟩:∃ n,l.length=n:=⟨_,rfl⟩
 induction n generalizing l with
 |zero =>
  have:l=[]:=List.length_eq_zero_iff.1 hn
  subst this
  exact ⟨h,fun x hx=>(by cases hx),rfl⟩
 |succ n ih =>
  obtain ⟨l',b,rfl⟩:∃ l' b,l=l' ++ [b]:=⟨l.dropLast,l.getLast (by intro e; rw [e] at hn; simp at hn),(List.dropLast_concat_getLast _).symm⟩
  rw [List.length_append] at hn
  obtain ⟨h1,h2,h3⟩:=ih l' (by simpa using hn)
  rw [sayD_snoc]
  refine ⟨lineD_ok h1,fun x hx=>?_,?_⟩
  ·rcases List.mem_append.1 hx with hx|hx
   ·exact h2 x hx
   ·rw [List.mem_singleton.1 hx]
    exact lineD_ne h1
  ·show ((sayD d l').2 ++ _).length=_
   rw [List.length_append,List.length_append,h3]
   rfl
end Go.Proofs.YtgdbhjmpkkbnnaaGreatDoor.Vc
end
section
/- Part QS: slices.Sort and slices.Compact of what is in order. -/
namespace Go.Proofs.YtgdbhjmpkkbnnaaGreatDoor.Vc
open Go.Proofs Go.RowKit Go.Lib Go.Sort
set_option maxRecDepth 10000
set_option maxHeartbeats 4000000
theorem compact_sorted {l:List Int} (h:l.Pairwise (·<·)):Lib.compact l=l:=by
 unfold Lib.compact Lib.compactUpTo
 rw [List.filter_eq_self.2 fun j hj=>?_]
 ·apply List.ext_getElem (by simp)
  intro i h1 h2
  simp [h2]
 ·rw [List.mem_range] at hj
  by_cases h0:j=0
  ·exact Lib.keeps_lt_one _ j (by omega)
  ·refine Lib.keeps_pos fun e=>?_
   have:=List.pairwise_iff_getElem.1 h (j-1) j (by omega) hj (by omega)
   have e':l[j]=l[j-1]:=by simpa [hj,show j-1<l.length by omega] using e
   omega
theorem sort_sorted {l:List Int} (h:l.Pairwise (·<·)):(l.mergeSort fun x y=>decide (x≤y))=l :=
 List.mergeSort_of_pairwise (h.imp fun h=>decide_eq_true (Int.le_of_lt h))
structure ascL (l:List Int):Prop where
 ne:0<l.length
 lt:l.length≤100
 asc:l.Pairwise (·<·)
theorem heap_grow {w:World} {n:Nat} {os:Array Go.Obj} {c:Nat} (h:c<w.heap.size):(grow (Sort.ahead w n) os).heap[c]?=w.heap[c]?:=by
 show (w.heap ++ os)[c]?=_
 rw [Array.getElem?_append_left h]
def C338:GC:=conG (X:=List Int) (fun l=>[.row 0 1 0 l.length]) (fun l=>[.row 1 l.length fun i=>encI (l.getD i 0)]) ascL fun l K=>K (.tup []) [.row 1 l.length fun i=>encI (l.getD i 0)]
theorem F338:GG 225 C338:=fun Gl hG=>by
 refine ⟨FnOk.has ⟨rfl,by decide +kernel,by decide +kernel⟩ (fn:=Tryz.f225),fun us og K K' hk ⟨x,h1,h2,h3,h4⟩=>⟨x,h1,h2,h3,hk _ _ h4⟩,?_⟩
 rintro us og K ⟨l,rfl,rfl,⟨hl⟩,hK⟩ ρ R w xs hh ha
 have hne:=hl.ne
 have hle:=hl.lt
 obtain ⟨hsz,hx⟩:=ha
 replace hsz:xs.size=1:=hsz
 have a0:=(hx 0 (by show 0<1; omega)).vr rfl
 have ex:xs=#[xs.getD 0 Go.undef]:=by
  apply Array.ext
  ·simpa using hsz
  ·intro i h1 h2
   have:i=0:=by omega
   subst this
   simp [h1]
 rw [ex]
 generalize xs.getD 0 Go.undef=x0 at a0
 replace a0:VR ρ R w (.row 0 1 0 l.length) x0:=a0
 have hob:OB ρ [.row 1 l.length fun i=>encI (l.getD i 0)] R w 0 (.row 1 l.length fun i=>encI (l.getD i 0)):=hh.obj 0 _ rfl
 obtain ⟨b,cs,ty,g1,g2,g3,g4,g5⟩:∃ b xs ty,ρ ((0:Nat):Ix)=some b∧w.heap[b]?=some (.cells xs ty (0,0))∧l.length*1≤xs.size∧(∀ i,i<l.length→(encI (l.getD i 0)).length=1)∧∀ i,i<l.length→∀ j,j<1→DR R w ((encI (l.getD i 0)).getD j .undef) (xs.getD (i*1+j) Go.undef):=by
  rcases hob with ⟨q,_⟩|q
  ·have q':l.length=0:=q
   omega
  ·exact q
 have hbl:=hh.lt ((0:Nat):Ix) b g1
 have nid:∀ id q' b',ρ (.inn id q')=some b'→False:=fun id q' b' h=>by
  obtain ⟨_,_,_,_,e⟩:=hh.din id q' b' h
  match id,e with
  |0,e=>cases e
  |k+1,e=>cases e
 obtain ⟨cap,rfl,hcap⟩:∃ cap,x0=.slice (some ⟨b,0,none⟩) l.length cap∧l.length≤cap∧cap≤cs.size∧cap≤9223372036854775807:=by
  generalize hll:l.length=len at a0
  cases a0 with
  |data a0=>cases a0
  |row h1 h2 h3 h4 h5 =>
   rw [g1] at h1
   cases h1
   rw [g2] at h2
   cases h2
   exact ⟨_,by rw [Nat.zero_mul],h3,by omega,h5⟩
  |row0=>omega
 have hcv:∀ i,i<l.length→cs.getD i Go.undef=.int .i64 (l.getD i 0):=fun i hi=>by
  have h6:=g5 i hi 0 (by decide)
  rw [Nat.mul_one,Nat.add_zero] at h6
  have h7:DR R w (.int .i64 (l.getD i 0)) (cs.getD i Go.undef):=h6
  generalize cs.getD i Go.undef=v at h7 ⊢
  cases h7
  rfl
 have hc:∀ i,i<l.length→w.cell? ⟨b,0+i,none⟩=some (.int .i64 (l.getD i 0)):=fun i hi=>by
  have hics:i<cs.size:=by omega
  have:=hcv i hi
  rw [Array.getD_eq_getD_getElem?,Array.getElem?_eq_getElem hics] at this
  unfold World.cell?
  rw [Nat.zero_add]
  show (match w.heap[b]? with|some (.cells c _ _)=>if (none:Option Nat).isSome then none else c[i]?|_=>none)=_
  rw [g2]
  show cs[i]?=_
  rw [Array.getElem?_eq_getElem hics]
  exact congrArg some this
 have hf:∀ j,j<l.length→w.frozen? ⟨b,0+j,none⟩=false:=fun j _=>by
  unfold World.frozen?
  rw [show w.heap[(⟨b,0+j,none⟩:Addr).block]?=some (.cells cs ty (0,0)) from g2]
  simp
 have hH:=Lib.holds_of_ints (n:=l.length) (Nat.le_refl _) hc hf
 rw [List.take_of_length_le (Nat.le_refl _)] at hH
 refine (Tryz.slices_Sort_int b 0 cap l w hH hbl (by omega)).mono fun e w' he=>?_
 obtain ⟨rfl,n,os,rfl⟩:=he
 rw [sort_sorted hl.asc,putRow_ahead,putRow_self _ _ _ _ _ hH]
 have hs:∀ c,c<w.heap.size→(grow (Sort.ahead w n) os).heap[c]?=w.heap[c]?:=fun c h=>heap_grow h
 have hsz':w.heap.size≤(grow (Sort.ahead w n) os).heap.size:=by show _≤(w.heap ++ os).size; rw [Array.size_append]; omega
 refine ⟨_,_,_,ρ,R,rfl,hK,⟨fun id b' h=>hh.dom id b' h,fun id q' b' h=>(nid id q' b' h).elim,fun id b' h=>Nat.lt_of_lt_of_le (hh.lt id b' h) hsz',hh.inj,fun b' h=>⟨Nat.lt_of_lt_of_le (hh.ro b' h).1 hsz',(hh.ro b' h).2⟩,fun id ob h=>?_,fun p hp=>⟨(hh.gl p hp).1,?_⟩⟩,⟨rfl,fun _=>.tup [] #[] rfl fun j hj=>absurd hj (Nat.not_lt_zero _)⟩,Nat.le_refl _,?_⟩
 ·match id,h with
  |0,h=>cases h; exact .inr ⟨b,cs,ty,g1,by rw [hs b hbl]; exact g2,g3,g4,fun i hi j hj=>(g5 i hi j hj).go (fun _ h=>h) fun b' hb'=>hs b' (hh.ro b' hb').1⟩
  |k+1,h=>cases h
 ·rw [hs p.1 (hh.ro _ (hh.gl p hp).1).1]
  exact (hh.gl p hp).2
 ·refine ⟨fun id hid=>?_,fun _ h=>h,fun _ h=>.inl h,fun id _ h=>.inr ⟨id,h⟩,hsz',fun c hc' _=>hs c hc',fun c xs' ty' h=>⟨xs',by rw [hs c (Array.getElem?_eq_some_iff.1 h).1]; exact h,rfl⟩,rfl,rfl,rfl⟩
  match id,hid with
  |0,_=>exact ⟨⟨_,_,rfl⟩,rfl⟩
def C339:GC:=conG (X:=List Int) (fun l=>[.row 0 1 0 l.length]) (fun l=>[.row 1 l.length fun i=>encI (l.getD i 0)]) ascL fun l K=>K (.row 0 1 0 l.length) [.row 1 l.length fun i=>encI (l.getD i 0)]
theorem F339:GG 226 C339:=fun Gl hG=>by
 refine ⟨FnOk.has ⟨rfl,by decide +kernel,by decide +kernel⟩ (fn:=Tryz.f226),fun us og K K' hk ⟨x,h1,h2,h3,h4⟩=>⟨x,h1,h2,h3,hk _ _ h4⟩,?_⟩
 rintro us og K ⟨l,rfl,rfl,⟨hl⟩,hK⟩ ρ R w xs hh ha
 have hne:=hl.ne
 have hle:=hl.lt
 obtain ⟨hsz,hx⟩:=ha
 replace hsz:xs.size=1:=hsz
 have a0:=(hx 0 (by show 0<1; omega)).vr rfl
 have ex:xs=#[xs.getD 0 Go.undef]:=by
  apply Array.ext
  ·simpa using hsz
  ·intro i h1 h2
   have:i=0:=by omega
   subst this
   simp [h1]
 rw [ex]
 generalize xs.getD 0 Go.undef=x0 at a0
 replace a0:VR ρ R w (.row 0 1 0 l.length) x0:=a0
 have hob:OB ρ [.row 1 l.length fun i=>encI (l.getD i 0)] R w 0 (.row 1 l.length fun i=>encI (l.getD i 0)):=hh.obj 0 _ rfl
 obtain ⟨b,cs,ty,g1,g2,g3,g4,g5⟩:∃ b xs ty,ρ ((0:Nat):Ix)=some b∧w.heap[b]?=some (.cells xs ty (0,0))∧l.length*1≤xs.size∧(∀ i,i<l.length→(encI (l.getD i 0)).length=1)∧∀ i,i<l.length→∀ j,j<1→DR R w ((encI (l.getD i 0)).getD j .undef) (xs.getD (i*1+j) Go.undef):=by
  rcases hob with ⟨q,_⟩|q
  ·have q':l.length=0:=q
   omega
  ·exact q
 have hbl:=hh.lt ((0:Nat):Ix) b g1
 have nid:∀ id q' b',ρ (.inn id q')=some b'→False:=fun id q' b' h=>by
  obtain ⟨_,_,_,_,e⟩:=hh.din id q' b' h
  match id,e with
  |0,e=>cases e
  |k+1,e=>cases e
 obtain ⟨cap,rfl,hcap⟩:∃ cap,x0=.slice (some ⟨b,0,none⟩) l.length cap∧l.length≤cap∧cap≤cs.size∧cap≤9223372036854775807:=by
  generalize hll:l.length=len at a0
  cases a0 with
  |data a0=>cases a0
  |row h1 h2 h3 h4 h5 =>
   rw [g1] at h1
   cases h1
   rw [g2] at h2
   cases h2
   exact ⟨_,by rw [Nat.zero_mul],h3,by omega,h5⟩
  |row0=>omega
 have hcv:∀ i,i<l.length→cs.getD i Go.undef=.int .i64 (l.getD i 0):=fun i hi=>by
  have h6:=g5 i hi 0 (by decide)
  rw [Nat.mul_one,Nat.add_zero] at h6
  have h7:DR R w (.int .i64 (l.getD i 0)) (cs.getD i Go.undef):=h6
  generalize cs.getD i Go.undef=v at h7 ⊢
  cases h7
  rfl
 have hc:∀ i,i<l.length→w.cell? ⟨b,0+i,none⟩=some (.int .i64 (l.getD i 0)):=fun i hi=>by
  have hics:i<cs.size:=by omega
  have:=hcv i hi
  rw [Array.getD_eq_getD_getElem?,Array.getElem?_eq_getElem hics] at this
  unfold World.cell?
  rw [Nat.zero_add]
  show (match w.heap[b]? with|some (.cells c _ _)=>if (none:Option Nat).isSome then none else c[i]?|_=>none)=_
  rw [g2]
  show cs[i]?=_
  rw [Array.getElem?_eq_getElem hics]
  exact congrArg some this
 have hf:∀ j,j<l.length→w.frozen? ⟨b,0+j,none⟩=false:=fun j _=>by
  unfold World.frozen?
  rw [show w.heap[(⟨b,0+j,none⟩:Addr).block]?=some (.cells cs ty (0,0)) from g2]
  simp
 have hH:=Lib.holds_of_ints (n:=l.length) (Nat.le_refl _) hc hf
 rw [List.take_of_length_le (Nat.le_refl _)] at hH
 refine (Tryz.slices_Compact_int b 0 cap l w hH (by omega) hcap.1).mono fun e w' he=>?_
 obtain ⟨rfl,q,rfl⟩:=he
 rw [compact_sorted hl.asc,Nat.sub_self,List.replicate_zero,List.append_nil,putRow_ahead,putRow_self _ _ _ _ _ hH]
 have hs:∀ c:Nat,(Sort.ahead w q).heap[c]?=w.heap[c]?:=fun c=>rfl
 refine ⟨_,_,_,ρ,R,rfl,hK,⟨fun id b' h=>hh.dom id b' h,fun id q' b' h=>(nid id q' b' h).elim,fun id b' h=>hh.lt id b' h,hh.inj,fun b' h=>hh.ro b' h,fun id ob h=>?_,fun p hp=>hh.gl p hp⟩,⟨rfl,fun _=>?_⟩,Nat.le_refl _,?_⟩
 ·match id,h with
  |0,h=>cases h; exact .inr ⟨b,cs,ty,g1,g2,g3,g4,fun i hi j hj=>(g5 i hi j hj).go (fun _ h=>h) fun b' _=>hs b'⟩
  |k+1,h=>cases h
 ·have:=VR.row (ρ:=ρ) (R:=R) (w:=Sort.ahead w q) (id:=0) (sz:=1) (off:=0) (len:=l.length) (b:=b) (cs:=cs) (ty:=ty) (cap:=cap) g1 g2 hcap.1 (by omega) hcap.2.2
  rwa [Nat.zero_mul] at this
 ·refine ⟨fun id hid=>?_,fun _ h=>h,fun _ h=>.inl h,fun id _ h=>.inr ⟨id,h⟩,Nat.le_refl _,fun c _ _=>hs c,fun c xs' ty' h=>⟨xs',h,rfl⟩,rfl,rfl,rfl⟩
  match id,hid with
  |0,_=>exact ⟨⟨_,_,rfl⟩,rfl⟩
end Go.Proofs.YtgdbhjmpkkbnnaaGreatDoor.Vc
end
section
/- Part QG: the least crowds, by the implementation. -/
namespace Go.Proofs.YtgdbhjmpkkbnnaaGreatDoor.Vc
open Go.Proofs
set_option maxRecDepth 10000
set_option maxHeartbeats 4000000
theorem and_not:∀ d,d<64→∀ c,c<64→(bitop .i64 .andNot ((d:Nat):Int) ((c:Nat):Int)=0 ↔ band (d:Nat) (c:Nat)=((d:Nat):Int)):=by decide +kernel
theorem and_not' {d c:Int} (hd:0≤d∧d<64) (hc:0≤c∧c<64):bitop .i64 .andNot d c=0 ↔ band d c=d:=by
 have:=and_not d.toNat (by omega) c.toNat (by omega)
 rwa [Int.toNat_of_nonneg hd.1,Int.toNat_of_nonneg hc.1] at this
def inB (d c:Int):Bool:=decide (d≠c) && decide (band d c=d)
theorem lsB_in {L:List Int} {c:Int}:lsB L c=L.all fun d=>!inB d c:=by
 unfold lsB
 congr 1
 funext d
 unfold inB
 by_cases h:d=c <;> by_cases g:band d c=d <;> simp [h,g]
structure Dc where
 d:Int
 c:Int
def C337:GC:=conG (X:=Dc) (fun x=>[.int .i64 x.d,.ptr 0 0]) (fun x=>[.box [.int .i64 x.c]]) (fun x=>(0≤x.d∧x.d<64)∧0≤x.c∧x.c<64) fun x K=>K (.bool (inB x.d x.c)) [.box [.int .i64 x.c]]
theorem F337:GG 224 C337:=by
 refine fitG [] (by simp) [] (by simp) Tryz.f224 ⟨rfl,by decide +kernel,by decide +kernel⟩ (by intro x K K2 hk h; (try dsimp only at h ⊢); intros; apply hk; first|exact h|(apply h <;> assumption)) ?_
 rintro ⟨d,c⟩ K ⟨hd,hc⟩ h
 refine ⟨Nat.le_of_ble_eq_true rfl,?_⟩
 dsimp only at h hd hc ⊢
 have ha:=and_not' hd hc
 repeat' (first|refine vz ?_|(conv=>whnf); first|with_reducible first|refine Sp.mk ?_ ?_|refine br_d (fun _=>?_) fun _=>?_|refine vM (fun _=>?_) fun _=>?_)
 ·rename_i q
  have e:inB d c=false:=by
   unfold inB
   rw [decide_eq_false (show ¬ d≠c from fun g=>g q),Bool.false_and]
  rw [e] at h
  refine ⟨_,_,[some 0],[],rfl,rfl,?_,?_,h⟩
  ·exact wq
  ·exact wq
 ·rename_i q
  have e:inB d c=decide (bitop .i64 .andNot d c=0):=by
   unfold inB
   rw [decide_eq_true (show d≠c from q),Bool.true_and]
   exact decide_eq_decide.2 ha.symm
  rw [e] at h
  refine ⟨_,_,[some 0],[],rfl,rfl,?_,?_,h⟩
  ·exact wq
  ·exact wq
structure Lc where
 l:List Int
 c:Int
def lcI (x:Lc):Prop:=x.l.length≤64∧(∀ d∈x.l,0≤d∧d<64)∧0≤x.c∧x.c<64
def C341:GC:=conG (X:=Lc) (fun x=>[slI x.l,.fn 224 [] [.ptr 0 0]]) (fun x=>[.box [.int .i64 x.c]]) lcI fun x K=>ixpost x.l.length (fun i=>inB (x.l.getD i 0) x.c=true) fun r=>K r [.box [.int .i64 x.c]]
theorem F341:GG 236 C341:=by
 refine fitG [] (by simp) [(224,C337)] (by simp only [List.mem_cons,List.not_mem_nil,or_false]; rintro _ rfl <;> first|exact F337) Tryz.f236 ⟨rfl,by decide +kernel,by decide +kernel⟩ (fun _ _ _ hk h i h1 h2 h3 h4=>hk _ _ (h i h1 h2 h3 h4)) ?_
 rintro ⟨l,c⟩ K ⟨h1,h2,h3⟩ h
 refine ⟨Nat.le_of_ble_eq_true rfl,?_⟩
 dsimp only at h h1 h2 h3 ⊢
 repeat' (first|refine vz ?_|(conv=>whnf); first|with_reducible first|refine Sp.mk ?_ ?_|refine br_d (fun _=>?_) fun _=>?_|refine vM (fun _=>?_) fun _=>?_)
 refine Lp.mk ⟨Nat,fun i=>[(0,slI l),(1,.fn 224 [] [.ptr 0 0]),(7,.int .i64 l.length),(8,.int .i64 i)],fun _=>[.box [.int .i64 c]],fun i=>i≤l.length∧∀ j,j<i→¬ inB (l.getD j 0) c=true,fun i=>l.length-i,⟨0,⟨Nat.zero_le _,fun j hj=>absurd hj (Nat.not_lt_zero _)⟩,⟨⟨[some 0],[],rfl,rfl,?_,?_⟩⟩⟩,?_⟩
 ·exact wq
 ·exact wq
 rintro i ⟨i1,i2⟩
 dsimp only
 repeat' (first|refine vz ?_|(conv=>whnf); first|with_reducible first|refine Sp.mk ?_ ?_|refine br_d (fun _=>?_) fun _=>?_|refine vM (fun _=>?_) fun _=>?_)
 ·rename_i hi
  have hi:i<l.length:=by omega
  refine ⟨_,_,[0],[],rfl,?_,?_,⟨l.getD i 0,c⟩,rfl,rfl,⟨h2 _ (getD_mem' hi),h3⟩,?_⟩
  ·exact wq
  ·exact wq
  dsimp only
  repeat' (first|refine vz ?_|(conv=>whnf); first|with_reducible first|refine Sp.mk ?_ ?_|refine br_d (fun _=>?_) fun _=>?_|refine vM (fun _=>?_) fun _=>?_)
  ·rename_i hb
   refine ⟨_,_,[some 0],[],rfl,rfl,?_,?_,h i (by omega) (by omega) (fun e=>by omega) (fun _=>hb)⟩
   ·exact wq
   ·exact wq
  ·rename_i hb
   refine ⟨i+1,⟨by omega,fun j hj=>?_⟩,by omega,⟨⟨[some 0],[],rfl,rfl,?_,?_⟩⟩⟩
   ·by_cases e:j=i
    ·subst e; rw [hb]; exact Bool.false_ne_true
    ·exact i2 j (by omega)
   ·exact wq
   ·exact wq
 ·rename_i hi
  refine ⟨_,_,[some 0],[],rfl,rfl,?_,?_,h (-1) (by omega) (by omega) (fun _ j hj=>i2 j (by omega)) (fun e=>absurd e (by decide))⟩
  ·exact wq
  ·exact wq
def C340:GC:=conG (X:=Lc) (fun x=>[slI x.l,.fn 224 [] [.ptr 0 0]]) (fun x=>[.box [.int .i64 x.c]]) lcI fun x K=>K (.bool (!lsB x.l x.c)) [.box [.int .i64 x.c]]
theorem F340:GG 223 C340:=by
 refine fitG [] (by simp) [(236,C341)] (by simp only [List.mem_cons,List.not_mem_nil,or_false]; rintro _ rfl <;> first|exact F341) Tryz.f223 ⟨rfl,by decide +kernel,by decide +kernel⟩ (by intro x K K2 hk h; (try dsimp only at h ⊢); intros; apply hk; first|exact h|(apply h <;> assumption)) ?_
 rintro ⟨l,c⟩ K hI h
 refine ⟨Nat.le_of_ble_eq_true rfl,?_⟩
 dsimp only at h ⊢
 repeat' (first|refine vz ?_|(conv=>whnf); first|with_reducible first|refine Sp.mk ?_ ?_|refine br_d (fun _=>?_) fun _=>?_|refine vM (fun _=>?_) fun _=>?_)
 refine ⟨_,_,[0],[],rfl,?_,?_,⟨l,c⟩,rfl,rfl,⟨hI⟩,?_⟩
 ·exact wq
 ·exact wq
 intro i g1 g2 g3 g4
 dsimp only at g1 g2 g3 g4 ⊢
 have e:(!lsB l c)=decide (i≥0):=by
  rw [lsB_in]
  by_cases hi:i≥0
  ·rw [decide_eq_true hi,Bool.not_eq_true',List.all_eq_false]
   exact ⟨_,getD_mem' (l:=l) (i:=i.toNat) (d:=0) (by omega),by rw [g4 hi]; decide⟩
  ·rw [decide_eq_false hi,Bool.not_eq_false',List.all_eq_true]
   intro d hd
   obtain ⟨j,hj,rfl⟩:=List.getElem_of_mem hd
   have:=g3 (by omega) j hj
   rw [List.getD_eq_getElem?_getD,List.getElem?_eq_getElem hj] at this
   simpa using this
 rw [e] at h
 repeat' (first|refine vz ?_|(conv=>whnf); first|with_reducible first|refine Sp.mk ?_ ?_|refine br_d (fun _=>?_) fun _=>?_|refine vM (fun _=>?_) fun _=>?_)
 refine ⟨_,_,[some 0],[],rfl,rfl,?_,?_,h⟩
 ·exact wq
 ·exact wq
structure lcOk (l:List Int):Prop where
 lt:l.length≤64
 cr:∀ d∈l,0≤d∧d<64
 asc:l.Pairwise (·<·)
 ne:l.filter (lsB l)≠[]
def C336:List AV→(AV→Prop)→Prop:=con (X:=List Int) (fun l=>[slI l]) lcOk fun l K=>K (slI (l.filter (lsB l)))
theorem F336:FF 204 C336:=by
 refine fitX [] (by simp) [(223,C340),(225,C338),(226,C339)] (by simp only [List.mem_cons,List.not_mem_nil,or_false]; rintro _ (rfl|rfl|rfl) <;> first|exact F340|exact F338|exact F339) Tryz.f204 ⟨rfl,by decide +kernel,by decide +kernel⟩ (by intro x K K2 hk h; (try dsimp only at h ⊢); intros; apply hk; first|exact h|(apply h <;> assumption)) ?_
 rintro l K hL h
 refine ⟨Nat.le_of_ble_eq_true rfl,?_⟩
 have h1:=hL.lt
 have h2:=hL.cr
 obtain ⟨q,hq⟩:∃ q,lsB l=q:=⟨_,rfl⟩
 have hA:ascL (l.filter q):=by
  rw [← hq]
  refine ⟨?_,?_,hL.asc.filter _⟩
  ·exact List.length_pos_iff.2 hL.ne
  ·have:=List.length_filter_le (lsB l) l
   omega
 rw [hq] at h
 repeat' (first|refine vz ?_|(conv=>whnf); first|with_reducible first|refine Sp.mk ?_ ?_|refine br_d (fun _=>?_) fun _=>?_|refine vM (fun _=>?_) fun _=>?_)
 refine Lp.mk ⟨Nat,fun i=>[(0,slI l),(3,.row 0 1 0 ((l.take i).filter q).length),(7,slI l),(8,.int .i64 l.length),(9,.int .i64 i)],fun i=>[.row 1 ((l.take i).filter q).length fun j=>encI (((l.take i).filter q).getD j 0)],fun i=>i≤l.length,fun i=>l.length-i,⟨0,Nat.zero_le _,⟨⟨[none],[],rfl,rfl,?_,?_⟩⟩⟩,?_⟩
 ·exact wq
 ·exact wq
 intro i i1
 dsimp only
 have hll:((l.take i).filter q).length≤64:=by
  have:=List.length_filter_le q (l.take i)
  rw [List.length_take] at this
  omega
 repeat' (first|refine vz ?_|(conv=>whnf); first|with_reducible first|refine Sp.mk ?_ ?_|refine br_d (fun _=>?_) fun _=>?_|refine vM (fun _=>?_) fun _=>?_)
 ·rename_i hi
  have hi:i<l.length:=by omega
  refine ⟨_,_,[1],[],rfl,?_,?_,⟨l,l.getD i 0⟩,rfl,rfl,⟨h1,h2,h2 _ (getD_mem' hi)⟩,?_⟩
  ·exact wq
  ·exact wq
  dsimp only
  rw [hq]
  repeat' (first|refine vz ?_|(conv=>whnf); first|with_reducible first|refine Sp.mk ?_ ?_|refine br_d (fun _=>?_) fun _=>?_|refine vM (fun _=>?_) fun _=>?_)
  ·rename_i hv
   have e:=filt_t (q:=q) hi (by simpa using hv)
   refine ⟨i+1,by omega,by omega,?_⟩
   first|(refine ⟨⟨[some 3],[],rfl,rfl,?_,?_⟩⟩ <;> (repeat' ((conv=>whnf); first|with_reducible exact True.intro|exact vW|with_reducible refine And.intro ?_ ?_|exact Chk.mk ⟨rfl,by rw [e]; simp⟩|exact Chk.mk (by rw [e]; exact app_ext rfl))) <;> fail)|(refine ⟨⟨[some 2],[],rfl,rfl,?_,?_⟩⟩ <;> (repeat' ((conv=>whnf); first|with_reducible exact True.intro|exact vW|with_reducible refine And.intro ?_ ?_|exact Chk.mk ⟨rfl,by rw [e]; simp⟩|exact Chk.mk (by rw [e]; exact app_ext rfl))) <;> fail)|(refine ⟨⟨[some 4],[],rfl,rfl,?_,?_⟩⟩ <;> (repeat' ((conv=>whnf); first|with_reducible exact True.intro|exact vW|with_reducible refine And.intro ?_ ?_|exact Chk.mk ⟨rfl,by rw [e]; simp⟩|exact Chk.mk (by rw [e]; exact app_ext rfl))) <;> fail)
  ·rename_i hv
   have e:=filt_f (q:=q) hi (by simpa using hv)
   refine ⟨i+1,by omega,by omega,⟨⟨[some 0],[],rfl,rfl,?_,?_⟩⟩⟩
   ·repeat' ((conv=>whnf); first|with_reducible exact True.intro|exact vW|with_reducible refine And.intro ?_ ?_)
    all_goals exact Chk.mk ⟨rfl,by rw [e]⟩
   ·repeat' ((conv=>whnf); first|with_reducible exact True.intro|exact vW|with_reducible refine And.intro ?_ ?_)
    all_goals exact Chk.mk (by rw [e]; exact ⟨rfl,fun _ _=>rfl⟩)
 ·rename_i hi
  rw [List.take_of_length_le (by omega)]
  refine ⟨_,_,[0],[],rfl,?_,?_,l.filter q,rfl,rfl,⟨hA⟩,?_⟩
  ·exact wq
  ·exact wq
  dsimp only
  repeat' (first|refine vz ?_|(conv=>whnf); first|with_reducible first|refine Sp.mk ?_ ?_|refine br_d (fun _=>?_) fun _=>?_|refine vM (fun _=>?_) fun _=>?_)
  refine ⟨_,_,[0],[],rfl,?_,?_,l.filter q,rfl,rfl,⟨hA⟩,?_⟩
  ·exact wq
  ·exact wq
  dsimp only
  repeat' (first|refine vz ?_|(conv=>whnf); first|with_reducible first|refine Sp.mk ?_ ?_|refine br_d (fun _=>?_) fun _=>?_|refine vM (fun _=>?_) fun _=>?_)
  refine Eq.mp (congrArg (fun z=>K (AV.sl 1 _ z)) ?_) h
  funext j
  dsimp only
  rw [Nat.zero_add]
def C334:GC:=conG (X:=Sy) (fun x=>[.int .i64 x.c,.ptr 0 0,.ptr 1 0]) (fun x=>[.box [.int .i64 x.p,slI x.bs],.box [slM x.t]]) (fun x=>sayOk x∧x.t.length≤9) fun x K=>K (.bool (says x.bs x.c x.t)) [.box [.int .i64 x.p,slI x.bs],.box [slM x.t]]
theorem F334:GG 182 C334:=by
 refine fitG [(163,C39)] (by simp only [List.mem_cons,List.not_mem_nil,or_false]; rintro _ rfl <;> first|exact F39) [] (by simp) Tryz.f182 ⟨rfl,by decide +kernel,by decide +kernel⟩ (by intro x K K2 hk h; (try dsimp only at h ⊢); intros; apply hk; first|exact h|(apply h <;> assumption)) ?_
 rintro ⟨p,bs,t,c⟩ K hI h
 refine ⟨Nat.le_of_ble_eq_true rfl,?_⟩
 dsimp only at h ⊢
 repeat' (first|refine vz ?_|(conv=>whnf); first|with_reducible first|refine Sp.mk ?_ ?_|refine br_d (fun _=>?_) fun _=>?_|refine vM (fun _=>?_) fun _=>?_)
 refine ⟨⟨p,bs,t,c⟩,?_,⟨hI⟩,?_⟩
 ·exact wq
 repeat' (first|refine vz ?_|(conv=>whnf); first|with_reducible first|refine Sp.mk ?_ ?_|refine br_d (fun _=>?_) fun _=>?_|refine vM (fun _=>?_) fun _=>?_)
 refine ⟨_,_,[some 0,some 1],[],rfl,rfl,?_,?_,h⟩
 ·exact wq
 ·exact wq
theorem least_asc {q:Int→Bool} {n:Nat} (hn:n≤64) (h:leastF (cl q n) n≠[]):lcOk (cl q n):=by
 refine ⟨by have:=cl_le q n; omega,fun d hd=>?_,cl_sorted q n,?_⟩
 ·have:=(mem_cl.1 hd).1
  omega
 ·rw [least_filter]
  exact h
def C335:GC:=conG (X:=Dx) (fun x=>[.int .i64 x.p,.fn 182 [] [.ptr 0 0,.ptr 1 0]]) (fun x=>[.box [.int .i64 x.p,slI x.bs],.box [slM x.t]]) (fun x=>termOk ⟨x.p,x.bs⟩ x.t) fun x K=>K (slI (leastF (sayl x.bs x.t (pw x.p).toNat) (pw x.p).toNat)) [.box [.int .i64 x.p,slI x.bs],.box [slM x.t]]
theorem F335:GG 181 C335:=by
 refine fitG [(204,C336)] (by simp only [List.mem_cons,List.not_mem_nil,or_false]; rintro _ rfl <;> first|exact F336) [(182,C334)] (by simp only [List.mem_cons,List.not_mem_nil,or_false]; rintro _ rfl <;> first|exact F334) Tryz.f181 ⟨rfl,by decide +kernel,by decide +kernel⟩ (by intro x K K2 hk h; (try dsimp only at h ⊢); intros; apply hk; first|exact h|(apply h <;> assumption)) ?_
 rintro ⟨p,bs,t⟩ K hO h
 refine ⟨Nat.le_of_ble_eq_true rfl,?_⟩
 dsimp only at h hO ⊢
 have pp:people p:=hO.1.1
 have hp:=pw_le pp
 repeat' (first|refine vz ?_|(conv=>whnf); first|with_reducible refine Wr.ex (wsh pp) ?_|with_reducible first|refine Sp.mk ?_ ?_|refine br_d (fun _=>?_) fun _=>?_|refine vM (fun _=>?_) fun _=>?_)
 refine Lp.mk ⟨Nat,fun i=>[(0,.int .i64 p),(1,.fn 182 [] [.ptr 0 0,.ptr 1 0]),(5,.row 2 1 0 (sayl bs t i).length),(9,.int .i64 (pw p)),(10,.int .i64 i)],
  fun i=>[.box [.int .i64 p,slI bs],.box [slM t],.row 1 (sayl bs t i).length fun j=>encI ((sayl bs t i).getD j 0)],fun i=>i≤(pw p).toNat,fun i=>(pw p).toNat-i,⟨0,Nat.zero_le _,⟨⟨[some 0,some 1,none],[],rfl,rfl,?_,?_⟩⟩⟩,?_⟩
 ·repeat' ((conv=>whnf); first|with_reducible exact True.intro|exact vW|with_reducible refine And.intro ?_ ?_)
  all_goals exact Chk.mk (pw_sh pp).symm
 ·exact wq
 intro i i1
 dsimp only
 have hll:(sayl bs t i).length≤i:=cl_le _ i
 repeat' ((conv=>whnf); first|with_reducible refine wk_at 8 ?_|with_reducible refine wk_at1 8 ?_|with_reducible refine wk_at2 8 ?_|refine vA ?_|with_reducible first|refine v8 ?_|refine Ch.l ?_|refine Sp.mk ?_ ?_|refine vS ?_|refine vR ?_|refine vB ?_|refine br_nt ?_|refine br_tt ?_|refine br_ff ?_|refine vP ?_|refine vQ ?_|refine vT ?_|refine vF ?_|refine br_and ?_|refine br_or ?_|refine br_d (fun _=>?_) fun _=>?_|refine vM (fun _=>?_) fun _=>?_)
 ·rename_i hi
  refine ⟨_,_,[0,1],[],rfl,?_,?_,⟨p,bs,t,i⟩,rfl,rfl,⟨sayOk_of hO _ (by omega) (by omega),hO.2.1⟩,?_⟩
  ·exact wq
  ·exact wq
  dsimp only
  repeat' (first|refine vz ?_|(conv=>whnf); first|with_reducible first|refine Sp.mk ?_ ?_|refine br_d (fun _=>?_) fun _=>?_|refine vM (fun _=>?_) fun _=>?_)
  ·rename_i hv
   have e:sayl bs t (i+1)=sayl bs t i ++ [(i:Int)]:=by unfold sayl; rw [cl_t hv]
   refine ⟨i+1,by omega,by omega,?_⟩
   first|(refine ⟨⟨[some 0,some 1,some 4],[],rfl,rfl,?_,?_⟩⟩ <;> (repeat' ((conv=>whnf); first|with_reducible exact True.intro|exact vW|with_reducible refine And.intro ?_ ?_|exact Chk.mk ⟨rfl,by rw [e]; simp⟩|exact Chk.mk (by rw [e]; exact app_ext rfl))) <;> fail)|(refine ⟨⟨[some 0,some 1,some 3],[],rfl,rfl,?_,?_⟩⟩ <;> (repeat' ((conv=>whnf); first|with_reducible exact True.intro|exact vW|with_reducible refine And.intro ?_ ?_|exact Chk.mk ⟨rfl,by rw [e]; simp⟩|exact Chk.mk (by rw [e]; exact app_ext rfl))) <;> fail)
  ·rename_i hv
   have e:sayl bs t (i+1)=sayl bs t i:=by unfold sayl; rw [cl_f hv]
   refine ⟨i+1,by omega,by omega,⟨⟨[some 0,some 1,some 2],[],rfl,rfl,?_,?_⟩⟩⟩
   ·repeat' ((conv=>whnf); first|with_reducible exact True.intro|exact vW|with_reducible refine And.intro ?_ ?_)
    all_goals exact Chk.mk ⟨rfl,by rw [e]⟩
   ·repeat' ((conv=>whnf); first|with_reducible exact True.intro|exact vW|with_reducible refine And.intro ?_ ?_)
    all_goals exact Chk.mk (by rw [e]; exact ⟨rfl,fun _ _=>rfl⟩)
 ·rename_i hi
  have ei:i=(pw p).toNat:=by omega
  subst ei
  have hlc:=least_asc (q:=fun c=>says bs c t) (n:=(pw p).toNat) (by omega) (least_some hO)
  rw [show leastF (sayl bs t (pw p).toNat) (pw p).toNat=(sayl bs t (pw p).toNat).filter (lsB (sayl bs t (pw p).toNat)) from least_filter.symm] at h
  refine ⟨Wk.go [(5,slI (sayl bs t (pw p).toNat))] [.box [.int .i64 p,slI bs],.box [slM t]] ⟨⟨[some 0,some 1],[2],rfl,rfl,?_,?_⟩⟩ ?_⟩
  ·repeat' ((conv=>whnf); first|with_reducible exact True.intro|exact vW|with_reducible refine And.intro ?_ ?_)
   all_goals exact Chk.mk ⟨rfl,fun i _=>by dsimp only; (try rw [Nat.zero_add]); try rfl⟩
  ·exact wq
  repeat' (first|refine vz ?_|(conv=>whnf); first|with_reducible first|refine Sp.mk ?_ ?_|refine br_d (fun _=>?_) fun _=>?_|refine vM (fun _=>?_) fun _=>?_)
  refine ⟨sayl bs t (pw p).toNat,?_,⟨hlc⟩,?_⟩
  ·exact wq
  repeat' (first|refine vz ?_|(conv=>whnf); first|with_reducible first|refine Sp.mk ?_ ?_|refine br_d (fun _=>?_) fun _=>?_|refine vM (fun _=>?_) fun _=>?_)
  refine ⟨_,_,[some 0,some 1],[],rfl,rfl,?_,?_,h⟩
  ·exact wq
  ·exact wq
def C333:List AV→(AV→Prop)→Prop:=con (X:=House × List Mark) (fun x=>[enH x.1,slM x.2]) (fun x=>termOk x.1 x.2) fun x K=>K (slI (leastF (sayl x.1.bs x.2 (pw x.1.p).toNat) (pw x.1.p).toNat))
theorem F333:FF 155 C333:=by
 refine fitX [] (by simp) [(181,C335)] (by simp only [List.mem_cons,List.not_mem_nil,or_false]; rintro _ rfl <;> first|exact F335) Tryz.f155 ⟨rfl,by decide +kernel,by decide +kernel⟩ (by intro x K K2 hk h; (try dsimp only at h ⊢); intros; apply hk; first|exact h|(apply h <;> assumption)) ?_
 rintro ⟨⟨p,bs⟩,t⟩ K hO h
 refine ⟨Nat.le_of_ble_eq_true rfl,?_⟩
 dsimp only [enH] at h hO ⊢
 repeat' (first|refine vz ?_|(conv=>whnf); first|with_reducible first|refine Sp.mk ?_ ?_|refine br_d (fun _=>?_) fun _=>?_|refine vM (fun _=>?_) fun _=>?_)
 refine ⟨_,_,[0,1],[],rfl,?_,?_,⟨p,bs,t⟩,rfl,rfl,⟨hO⟩,?_⟩
 ·exact wq
 ·exact wq
 dsimp only
 repeat' (first|refine vz ?_|(conv=>whnf); first|with_reducible first|refine Sp.mk ?_ ?_|refine br_d (fun _=>?_) fun _=>?_|refine vM (fun _=>?_) fun _=>?_)
 exact h
end Go.Proofs.YtgdbhjmpkkbnnaaGreatDoor.Vc
end
section
/- Part QI: questions, by the implementation. -/
namespace Go.Proofs.YtgdbhjmpkkbnnaaGreatDoor.Vc
open Go.Proofs
set_option maxRecDepth 10000
set_option maxHeartbeats 4000000
def C319:List AV→(AV→Prop)→Prop:=con (X:=Bool) (fun b=>[.bool b]) (fun _=>True) fun b K=>K (.str (yn b))
theorem F319:FF 151 C319:=by
 refine fitE [] (by simp) Tryz.f151 ⟨rfl,by decide +kernel,by decide +kernel⟩ (fun _ _ _ hk h=>hk _ h) ?_
 rintro b K _ h
 refine ⟨Nat.le_of_ble_eq_true rfl,?_⟩
 unfold yn at h
 cases b
 ·rw [if_neg Bool.false_ne_true] at h
  repeat' (first|refine vz ?_|(conv=>whnf); first|with_reducible first|refine Sp.mk ?_ ?_|refine br_d (fun _=>?_) fun _=>?_|refine vM (fun _=>?_) fun _=>?_)
  exact h
 ·rw [if_pos rfl] at h
  repeat' (first|refine vz ?_|(conv=>whnf); first|with_reducible first|refine Sp.mk ?_ ?_|refine br_d (fun _=>?_) fun _=>?_|refine vM (fun _=>?_) fun _=>?_)
  exact h
structure Ask where
 p:Int
 bs:List Int
 t:List Mark
 w:ByteArray
theorem least_small {p:Int} {bs:List Int} {t:List Mark} (hO:termOk ⟨p,bs⟩ t):smallL (leastF (sayl bs t (pw p).toNat) (pw p).toNat):=by
 have pl:2≤pw p∧pw p≤64:=pw_le hO.1.1
 refine ⟨?_,fun n hn=>?_⟩
 ·have:(leastF (sayl bs t (pw p).toNat) (pw p).toNat).length≤(pw p).toNat:=cl_le _ _
  omega
 ·have:=(mem_cl.1 hn).1
  omega
theorem idle_le {p:Int} {bs:List Int} {t:List Mark} (hO:termOk ⟨p,bs⟩ t) (n:Nat):0≤idleF bs t n p.toNat∧idleF bs t n p.toNat≤64:=by
 have h6:p≤6:=hO.1.1.2
 have:=idle_lt bs t n p.toNat (by omega)
 have h2:2 ^ p.toNat≤2 ^ 6:=Nat.pow_le_pow_right (by decide) (by omega)
 have e:(2:Nat) ^ 6=64:=by decide
 omega
theorem need_le {p:Int} {bs:List Int} {t:List Mark} (hO:termOk ⟨p,bs⟩ t):0≤needF p bs t p.toNat∧needF p bs t p.toNat≤64:=by
 have h6:p≤6:=hO.1.1.2
 have:=need_lt (p:=p) (bs:=bs) (t:=t) p.toNat (by omega)
 have h2:2 ^ p.toNat≤2 ^ 6:=Nat.pow_le_pow_right (by decide) (by omega)
 have e:(2:Nat) ^ 6=64:=by decide
 omega
theorem count_le {p:Int} {bs:List Int} {t:List Mark} (hO:termOk ⟨p,bs⟩ t):(sayl bs t (pw p).toNat).length≤64:=by
 have pl:2≤pw p∧pw p≤64:=pw_le hO.1.1
 have:(sayl bs t (pw p).toNat).length≤(pw p).toNat:=cl_le _ _
 omega
def C317:List AV→(AV→Prop)→Prop:=con (X:=Ask) (fun x=>[house x.p x.bs,slM x.t,.str x.w]) (fun x=>termI ⟨x.p,x.bs⟩ x.t∧termOk ⟨x.p,x.bs⟩ x.t) fun x K=>K (.str (askO x.p x.bs x.t x.w))
theorem F317:FF 130 C317:=by
 refine fitE [(155,C333),(150,C182),(156,C342),(147,C101),(157,C343),(158,C24),(159,C46),(144,C192),(160,C344),(151,C319),(161,C345)] (by simp only [List.mem_cons,List.not_mem_nil,or_false]; rintro _ (rfl|rfl|rfl|rfl|rfl|rfl|rfl|rfl|rfl|rfl|rfl) <;> first|exact F333|exact F182|exact F342|exact F101|exact F343|exact F24|exact F46|exact F192|exact F344|exact F319|exact F345) Tryz.f130 ⟨rfl,by decide +kernel,by decide +kernel⟩ (fun _ _ _ hk h=>hk _ h) ?_
 rintro ⟨p,bs,t,w⟩ K ⟨hI,hO⟩ h
 refine ⟨Nat.le_of_ble_eq_true rfl,?_⟩
 dsimp only at h hI hO ⊢
 have i1:=idle_le hO (pw p).toNat
 have i2:=need_le hO
 have i3:=count_le hO
 unfold askO at h
 repeat' (first|refine vz ?_|(conv=>whnf); first|with_reducible first|refine Sp.mk ?_ ?_|refine br_d (fun _=>?_) fun _=>?_|refine vM (fun _=>?_) fun _=>?_)
 ·rename_i q1
  rw [if_pos q1] at h
  refine ⟨(⟨p,bs⟩,t),?_,⟨hO⟩,?_⟩
  ·exact wq
  dsimp only
  repeat' (first|refine vz ?_|(conv=>whnf); first|with_reducible first|refine Sp.mk ?_ ?_|refine br_d (fun _=>?_) fun _=>?_|refine vM (fun _=>?_) fun _=>?_)
  refine ⟨_,?_,⟨least_small hO⟩,?_⟩
  ·exact wq
  repeat' (first|refine vz ?_|(conv=>whnf); first|with_reducible first|refine Sp.mk ?_ ?_|refine br_d (fun _=>?_) fun _=>?_|refine vM (fun _=>?_) fun _=>?_)
  exact h
 ·rename_i q1 q2
  rw [if_neg q1,if_pos q2] at h
  refine ⟨(⟨p,bs⟩,t),?_,⟨hI,hO⟩,?_⟩
  ·exact wq
  dsimp only
  repeat' (first|refine vz ?_|(conv=>whnf); first|with_reducible first|refine Sp.mk ?_ ?_|refine br_d (fun _=>?_) fun _=>?_|refine vM (fun _=>?_) fun _=>?_)
  refine ⟨_,?_,⟨(by omega:0≤((sayl bs t (pw p).toNat).length:Int)∧((sayl bs t (pw p).toNat).length:Int)≤9223372036854775807)⟩,?_⟩
  ·exact wq
  repeat' (first|refine vz ?_|(conv=>whnf); first|with_reducible first|refine Sp.mk ?_ ?_|refine br_d (fun _=>?_) fun _=>?_|refine vM (fun _=>?_) fun _=>?_)
  exact h
 ·rename_i q1 q2 q3
  rw [if_neg q1,if_neg q2,if_pos q3] at h
  refine ⟨(⟨p,bs⟩,t),?_,⟨hI,hO⟩,?_⟩
  ·exact wq
  dsimp only
  repeat' (first|refine vz ?_|(conv=>whnf); first|with_reducible first|refine Sp.mk ?_ ?_|refine br_d (fun _=>?_) fun _=>?_|refine vM (fun _=>?_) fun _=>?_)
  refine ⟨_,?_,⟨(by omega:0≤needF p bs t p.toNat∧needF p bs t p.toNat≤9223372036854775807)⟩,?_⟩
  ·exact wq
  repeat' (first|refine vz ?_|(conv=>whnf); first|with_reducible first|refine Sp.mk ?_ ?_|refine br_d (fun _=>?_) fun _=>?_|refine vM (fun _=>?_) fun _=>?_)
  exact h
 ·rename_i q1 q2 q3 q4
  rw [if_neg q1,if_neg q2,if_neg q3,if_pos q4] at h
  refine ⟨(⟨p,bs⟩,t),?_,⟨hI,hO⟩,?_⟩
  ·exact wq
  dsimp only
  repeat' (first|refine vz ?_|(conv=>whnf); first|with_reducible first|refine Sp.mk ?_ ?_|refine br_d (fun _=>?_) fun _=>?_|refine vM (fun _=>?_) fun _=>?_)
  refine ⟨_,?_,⟨(by omega:0≤idleF bs t (pw p).toNat p.toNat∧idleF bs t (pw p).toNat p.toNat≤9223372036854775807)⟩,?_⟩
  ·exact wq
  repeat' (first|refine vz ?_|(conv=>whnf); first|with_reducible first|refine Sp.mk ?_ ?_|refine br_d (fun _=>?_) fun _=>?_|refine vM (fun _=>?_) fun _=>?_)
  exact h
 ·rename_i q1 q2 q3 q4 q5
  rw [if_neg q1,if_neg q2,if_neg q3,if_neg q4,if_pos q5] at h
  have hd:=termOk_dual hO
  refine ⟨⟨p,bs,t⟩,?_,⟨hO⟩,?_⟩
  ·exact wq
  dsimp only
  repeat' (first|refine vz ?_|(conv=>whnf); first|with_reducible first|refine Sp.mk ?_ ?_|refine br_d (fun _=>?_) fun _=>?_|refine vM (fun _=>?_) fun _=>?_)
  refine ⟨⟨bs,dualT bs t⟩,?_,⟨bodies_of hO.1,hd.2.2,hd.2.1⟩,?_⟩
  ·exact wq
  repeat' (first|refine vz ?_|(conv=>whnf); first|with_reducible first|refine Sp.mk ?_ ?_|refine br_d (fun _=>?_) fun _=>?_|refine vM (fun _=>?_) fun _=>?_)
  exact h
 ·rename_i q1 q2 q3 q4 q5 q6
  rw [if_neg q1,if_neg q2,if_neg q3,if_neg q4,if_neg q5,if_pos q6] at h
  refine ⟨(⟨p,bs⟩,t),?_,⟨hI,hO⟩,?_⟩
  ·exact wq
  dsimp only
  repeat' (first|refine vz ?_|(conv=>whnf); first|with_reducible first|refine Sp.mk ?_ ?_|refine br_d (fun _=>?_) fun _=>?_|refine vM (fun _=>?_) fun _=>?_)
  refine ⟨decB p bs t (pw p).toNat,?_,⟨trivial⟩,?_⟩
  ·exact wq
  repeat' (first|refine vz ?_|(conv=>whnf); first|with_reducible first|refine Sp.mk ?_ ?_|refine br_d (fun _=>?_) fun _=>?_|refine vM (fun _=>?_) fun _=>?_)
  exact h
 ·rename_i q1 q2 q3 q4 q5 q6
  rw [if_neg q1,if_neg q2,if_neg q3,if_neg q4,if_neg q5,if_neg q6] at h
  refine ⟨(⟨p,bs⟩,t),?_,⟨hI,hO⟩,?_⟩
  ·exact wq
  dsimp only
  repeat' (first|refine vz ?_|(conv=>whnf); first|with_reducible first|refine Sp.mk ?_ ?_|refine br_d (fun _=>?_) fun _=>?_|refine vM (fun _=>?_) fun _=>?_)
  refine ⟨claB p bs t (pw p).toNat,?_,⟨trivial⟩,?_⟩
  ·exact wq
  repeat' (first|refine vz ?_|(conv=>whnf); first|with_reducible first|refine Sp.mk ?_ ?_|refine br_d (fun _=>?_) fun _=>?_|refine vM (fun _=>?_) fun _=>?_)
  exact h
structure Ask2 where
 p:Int
 bs:List Int
 t:List Mark
 w:ByteArray
 n:Int
theorem swings_sz {p:Int} {bs:List Int} {t:List Mark} {n:Int}:swingsOf ⟨⟨p,bs⟩,t,n⟩=-1∨0≤swingsOf ⟨⟨p,bs⟩,t,n⟩∧swingsOf ⟨⟨p,bs⟩,t,n⟩≤9223372036854775807:=by
 unfold swingsOf
 split
 ·rename_i h
  have pl:2≤pw p∧pw p≤64:=pw_le h.1.1.1
  have:=swl_le bs t n (pw p).toNat
  dsimp only
  right; omega
 ·exact .inl rfl
theorem pivots_sz {p:Int} {bs:List Int} {t:List Mark} {n:Int}:pivotsOf ⟨⟨p,bs⟩,t,n⟩=-1∨0≤pivotsOf ⟨⟨p,bs⟩,t,n⟩∧pivotsOf ⟨⟨p,bs⟩,t,n⟩≤9223372036854775807:=by
 unfold pivotsOf
 split
 ·rename_i h
  have pl:2≤pw p∧pw p≤64:=pw_le h.1.1.1
  have h6:p≤6:=h.1.1.1.2
  have hl:=swl_le bs t n (pw p).toNat
  have:=sumO_le (p:=p) h6 (swl bs t n (pw p).toNat) fun c hc=>by have:=swl_lt bs t n (pw p).toNat c hc; omega
  dsimp only
  right; omega
 ·exact .inl rfl
def C318:List AV→(AV→Prop)→Prop:=con (X:=Ask2) (fun x=>[house x.p x.bs,slM x.t,.str x.w,.int .i64 x.n]) (fun x=>(termI ⟨x.p,x.bs⟩ x.t∧termOk ⟨x.p,x.bs⟩ x.t)∧i64r x.n) fun x K=>K (.str (askT x.p x.bs x.t x.w x.n))
theorem F318:FF 129 C318:=by
 refine fitE [(152,C28),(151,C319),(153,C20),(154,C26),(147,C101)] (by simp only [List.mem_cons,List.not_mem_nil,or_false]; rintro _ (rfl|rfl|rfl|rfl|rfl) <;> first|exact F28|exact F319|exact F20|exact F26|exact F101) Tryz.f129 ⟨rfl,by decide +kernel,by decide +kernel⟩ (fun _ _ _ hk h=>hk _ h) ?_
 rintro ⟨p,bs,t,w,n⟩ K ⟨⟨hI,hO⟩,hn⟩ h
 refine ⟨Nat.le_of_ble_eq_true rfl,?_⟩
 dsimp only at h hI hO hn ⊢
 unfold askT at h
 repeat' (first|refine vz ?_|(conv=>whnf); first|with_reducible first|refine Sp.mk ?_ ?_|refine br_d (fun _=>?_) fun _=>?_|refine vM (fun _=>?_) fun _=>?_)
 ·rename_i q1
  rw [if_pos q1] at h
  refine ⟨⟨p,bs,t,n⟩,?_,⟨hI,hn⟩,?_⟩
  ·exact wq
  dsimp only
  rw [decide_eq_true hO,Bool.true_and]
  repeat' (first|refine vz ?_|(conv=>whnf); first|with_reducible first|refine Sp.mk ?_ ?_|refine br_d (fun _=>?_) fun _=>?_|refine vM (fun _=>?_) fun _=>?_)
  refine ⟨decide (crowd p n) && says bs n t,?_,⟨trivial⟩,?_⟩
  ·exact wq
  repeat' (first|refine vz ?_|(conv=>whnf); first|with_reducible first|refine Sp.mk ?_ ?_|refine br_d (fun _=>?_) fun _=>?_|refine vM (fun _=>?_) fun _=>?_)
  exact h
 ·rename_i q1 q2
  rw [if_neg q1,if_pos q2] at h
  have hm:=@swings_sz p bs t n
  refine ⟨⟨⟨p,bs⟩,t,n⟩,?_,⟨hI,hn⟩,?_⟩
  ·exact wq
  dsimp only
  generalize swingsOf ⟨⟨p,bs⟩,t,n⟩=m at hm h ⊢
  repeat' (first|refine vz ?_|(conv=>whnf); first|with_reducible first|refine Sp.mk ?_ ?_|refine br_d (fun _=>?_) fun _=>?_|refine vM (fun _=>?_) fun _=>?_)
  ·rename_i e
   rw [numN,if_pos (by omega)] at h
   exact h
  ·rename_i e
   have hm2:=hm.resolve_left e
   rw [numN,if_neg (by omega)] at h
   refine ⟨m,?_,⟨hm2⟩,?_⟩
   ·exact wq
   repeat' (first|refine vz ?_|(conv=>whnf); first|with_reducible first|refine Sp.mk ?_ ?_|refine br_d (fun _=>?_) fun _=>?_|refine vM (fun _=>?_) fun _=>?_)
   exact h
 ·rename_i q1 q2
  rw [if_neg q1,if_neg q2] at h
  have hm:=@pivots_sz p bs t n
  refine ⟨⟨⟨p,bs⟩,t,n⟩,?_,⟨hI,hn⟩,?_⟩
  ·exact wq
  dsimp only
  generalize pivotsOf ⟨⟨p,bs⟩,t,n⟩=m at hm h ⊢
  repeat' (first|refine vz ?_|(conv=>whnf); first|with_reducible first|refine Sp.mk ?_ ?_|refine br_d (fun _=>?_) fun _=>?_|refine vM (fun _=>?_) fun _=>?_)
  ·rename_i e
   rw [numN,if_pos (by omega)] at h
   exact h
  ·rename_i e
   have hm2:=hm.resolve_left e
   rw [numN,if_neg (by omega)] at h
   refine ⟨m,?_,⟨hm2⟩,?_⟩
   ·exact wq
   repeat' (first|refine vz ?_|(conv=>whnf); first|with_reducible first|refine Sp.mk ?_ ?_|refine br_d (fun _=>?_) fun _=>?_|refine vM (fun _=>?_) fun _=>?_)
   exact h
def C347:List AV→(AV→Prop)→Prop:=con (X:=List ByteArray × ByteArray) (fun x=>[slS x.1,.str x.2]) (fun x=>x.1.length<9223372036854775808) fun x K=>K (.bool (decide (x.2∈x.1)))
theorem F347:FF 128 C347:=by
 refine fitE [(124,C264)] (by simp only [List.mem_cons,List.not_mem_nil,or_false]; rintro _ rfl <;> first|exact F264) Tryz.f128 ⟨rfl,by decide +kernel,by decide +kernel⟩ (fun _ _ _ hk h=>hk _ h) ?_
 rintro ⟨l,x⟩ K hl h
 refine ⟨Nat.le_of_ble_eq_true rfl,?_⟩
 dsimp only at h hl ⊢
 repeat' (first|refine vz ?_|(conv=>whnf); first|with_reducible first|refine Sp.mk ?_ ?_|refine br_d (fun _=>?_) fun _=>?_|refine vM (fun _=>?_) fun _=>?_)
 refine ⟨(l,x),?_,⟨hl⟩,?_⟩
 ·exact wq
 intro i g1 g2 g3 g4
 dsimp only at g1 g2 g3 g4 ⊢
 have e:decide (x∈l)=decide (i≥0):=by
  refine decide_eq_decide.2 ⟨fun hx=>?_,fun hi=>?_⟩
  ·by_cases hi:i≥0
   ·exact hi
   ·exfalso
    obtain ⟨j,hj,rfl⟩:=List.getElem_of_mem hx
    have:=g3 (by omega) j hj
    rw [List.getD_eq_getElem?_getD,List.getElem?_eq_getElem hj] at this
    exact this rfl
  ·rw [← g4 hi]
   exact getD_mem' (by omega)
 rw [e] at h
 repeat' (first|refine vz ?_|(conv=>whnf); first|with_reducible first|refine Sp.mk ?_ ?_|refine br_d (fun _=>?_) fun _=>?_|refine vM (fun _=>?_) fun _=>?_)
 exact h
end Go.Proofs.YtgdbhjmpkkbnnaaGreatDoor.Vc
end
section
/- Part QJ: what is asked about a place, by the implementation. -/
namespace Go.Proofs.YtgdbhjmpkkbnnaaGreatDoor.Vc
open Go.Proofs
set_option maxRecDepth 10000
set_option maxHeartbeats 4000000
structure Ps where
 x:Place
 s:ByteArray
theorem ones7 (z:List AV):∀ i,i<7→[[AV.str wLeast],[.str wCount],[.str wNeeded],[.str wIdle],[.str wDual],[.str wDecisive],[.str wClash]].getD (0+i) z=encS (onesW.getD i ⟨#[]⟩):=fun i hi=>by
 rcases (show i=0∨i=1∨i=2∨i=3∨i=4∨i=5∨i=6 by omega) with rfl|rfl|rfl|rfl|rfl|rfl|rfl <;> rfl
theorem twos3 (z:List AV):∀ i,i<3→[[AV.str wConsent],[.str wSwings],[.str wPivots]].getD (0+i) z=encS (twosW.getD i ⟨#[]⟩):=fun i hi=>by
 rcases (show i=0∨i=1∨i=2 by omega) with rfl|rfl|rfl <;> rfl
theorem ones_twos {w:ByteArray} (h:w∈onesW):¬ w∈twosW:=by
 have key:∀ v∈onesW,¬ v∈twosW:=by decide
 exact key w h
theorem askL_what {x:Place} {L:List ByteArray} (h1:L.length=2→L.getD 0 ⟨#[]⟩∈onesW→isNum (L.getD 1 ⟨#[]⟩)=false) (h2:L.length=3→L.getD 0 ⟨#[]⟩∈twosW→isNum (L.getD 1 ⟨#[]⟩)=false∨isNum (L.getD 2 ⟨#[]⟩)=false):askL x L=wWhat:=by
 unfold askL
 split
 ·rename_i q
  unfold askOne
  split
  ·rename_i g
   have:=h1 q.1 g
   rw [digV_isNum.1 q.2] at this
   cases this
  ·rfl
 ·split
  ·rename_i q
   unfold askTwo
   split
   ·rename_i g
    rcases h2 q.1 g with e|e
    ·rw [digV_isNum.1 q.2.1] at e; cases e
    ·rw [digV_isNum.1 q.2.2] at e; cases e
   ·rfl
  ·rfl
theorem askL_one {x:Place} {L:List ByteArray} (hl:L.length=2) (hw:L.getD 0 ⟨#[]⟩∈onesW) (hn:isNum (L.getD 1 ⟨#[]⟩)=true):askL x L=if digV (L.getD 1 ⟨#[]⟩)<x.rules.length then askO x.p x.bs (termR x (digV (L.getD 1 ⟨#[]⟩)).toNat) (L.getD 0 ⟨#[]⟩) else wNone:=by
 unfold askL
 rw [if_pos ⟨hl,digV_isNum.2 hn⟩]
 unfold askOne
 rw [if_pos hw]
theorem askL_two {x:Place} {L:List ByteArray} (hl:L.length=3) (hw:L.getD 0 ⟨#[]⟩∈twosW) (hn:isNum (L.getD 1 ⟨#[]⟩)=true) (hm:isNum (L.getD 2 ⟨#[]⟩)=true):askL x L=if digV (L.getD 1 ⟨#[]⟩)<x.rules.length then askT x.p x.bs (termR x (digV (L.getD 1 ⟨#[]⟩)).toNat) (L.getD 0 ⟨#[]⟩) (digV (L.getD 2 ⟨#[]⟩)) else wNone:=by
 unfold askL
 rw [if_neg (fun q=>by omega),if_pos ⟨hl,digV_isNum.2 hn,digV_isNum.2 hm⟩]
 unfold askTwo
 rw [if_pos hw]
theorem digV_read {s:ByteArray} {v:Int} (hn:isNum s=true) (hv:∀ n:Nat,n<1000000→s=num n→v=n):v=digV s:=by
 obtain ⟨n,h1,h2⟩:=isNum_of hn
 rw [hv n h1 h2,h2,digV_num h1]
theorem fun_ext {f g:Nat→List AV} {i:Nat} (hg:g 0=f i):i+1=i+1∧∀ j,j<i+1→f j=appF i f g j:=⟨rfl,fun j hj=>by
 unfold appF
 cases hb:Nat.blt j i with
 |true=>rfl
 |false =>
  have:¬ j<i:=fun h=>by
   have:Nat.blt j i=true:=Nat.ble_eq_true_of_le h
   rw [this] at hb; cases hb
  obtain rfl:j=i:=by omega
  rw [Nat.sub_self]
  exact hg.symm⟩
def C316:List AV→(AV→Prop)→Prop:=con (X:=Ps) (fun x=>[enPl x.x,.str x.s]) (fun x=>(placeI x.x∧placeOk x.x)∧x.s.size≤1048576) fun x K=>K (.str (askD x.x x.s))
theorem F316:FF 93 C316:=by
 refine fitE [(127,C166),(123,C211),(128,C347),(125,C213),(121,C176),(129,C318),(130,C317)] (by simp only [List.mem_cons,List.not_mem_nil,or_false]; rintro _ (rfl|rfl|rfl|rfl|rfl|rfl|rfl) <;> first|exact F166|exact F211|exact F347|exact F213|exact F176|exact F318|exact F317) Tryz.f93 ⟨rfl,by decide +kernel,by decide +kernel⟩ (fun _ _ _ hk h=>hk _ h) ?_
 rintro ⟨⟨p,bs,rs⟩,s⟩ K ⟨⟨hI,hO⟩,hs⟩ h
 refine ⟨Nat.le_of_ble_eq_true rfl,?_⟩
 have hI1:=hI.1
 have hI2:=hI.2.1
 have hI3:=hI.2.2
 dsimp only [enPl,plC] at h hs hI2 hI3 ⊢
 unfold askD at h
 repeat' (first|refine vz ?_|(conv=>whnf); first|with_reducible first|refine Sp.mk ?_ ?_|refine br_d (fun _=>?_) fun _=>?_|refine vM (fun _=>?_) fun _=>?_)
 ·rename_i q
  rw [if_pos q] at h
  refine ⟨⟨p,bs,rs⟩,?_,⟨hO⟩,?_⟩
  ·exact wq
  repeat' (first|refine vz ?_|(conv=>whnf); first|with_reducible first|refine Sp.mk ?_ ?_|refine br_d (fun _=>?_) fun _=>?_|refine vM (fun _=>?_) fun _=>?_)
  exact h
 rename_i q
 rw [if_neg q] at h
 refine ⟨(s,32),?_,⟨by dsimp only; omega⟩,?_⟩
 ·exact wq
 have hl:=cutB_len s 32
 have hlm:∀ w∈cutB s 32,w.size≤s.size:=fun w hw=>cutB_mem (c:=32) hw
 dsimp only
 generalize cutB s 32=L at h hl hlm ⊢
 have hlt:L.length<9223372036854775808:=by omega
 have hL0:(L.getD 0 ⟨#[]⟩).size≤s.size:=hlm _ (getD_mem' (by omega))
 apply later
 ·intro key
  repeat' (first|refine vz ?_|(conv=>whnf); first|with_reducible first|refine Sp.mk ?_ ?_|refine br_d (fun _=>?_) fun _=>?_|refine vM (fun _=>?_) fun _=>?_)
  refine ⟨(onesW,L.getD 0 ⟨#[]⟩),?_,⟨by dsimp only; decide⟩,?_⟩
  ·repeat' ((conv=>whnf); first|with_reducible exact True.intro|exact vW|with_reducible refine And.intro ?_ ?_)
   all_goals exact Chk.mk ⟨rfl,ones7 _⟩
  dsimp only
  repeat' ((conv=>whnf); first|with_reducible refine wk_at 13 ?_|with_reducible refine wk_at1 13 ?_|with_reducible refine wk_at2 13 ?_|refine vA ?_|with_reducible first|refine v8 ?_|refine Ch.l ?_|refine Sp.mk ?_ ?_|refine vS ?_|refine vR ?_|refine vB ?_|refine br_nt ?_|refine br_tt ?_|refine br_ff ?_|refine vP ?_|refine vQ ?_|refine vT ?_|refine vF ?_|refine br_and ?_|refine br_or ?_|refine br_d (fun _=>?_) fun _=>?_|refine vM (fun _=>?_) fun _=>?_)
  ·rename_i hw hl2
   have hw':L.getD 0 ⟨#[]⟩∈onesW:=hw
   obtain ⟨N,hN⟩:∃ N:Nat,N=1:=⟨_,rfl⟩
   have hN2:(N=1∧L.getD 0 ⟨#[]⟩∈onesW∧L.length=2)∨(N=2∧L.getD 0 ⟨#[]⟩∈twosW∧L.length=3):=.inl ⟨hN,hw',by omega⟩
   refine ⟨Wk.go [(2,.ptr 0 0),(5,slS L),(8,.int .i64 N)] [.box (plC ⟨p,bs,rs⟩)] ⟨⟨[some 0],[],rfl,rfl,?_,?_⟩⟩ ?_⟩
   ·repeat' ((conv=>whnf); first|with_reducible exact True.intro|exact vW|with_reducible refine And.intro ?_ ?_)
    all_goals exact Chk.mk (by rw [hN]; rfl)
   ·exact wq
   clear hN
   revert N
   exact key.t
  ·rename_i hw hl2
   rw [askL_what (fun e=>by omega) (fun _ g=>absurd g (ones_twos hw))] at h
   exact h
  ·rename_i hw
   refine ⟨(twosW,L.getD 0 ⟨#[]⟩),?_,⟨by dsimp only; decide⟩,?_⟩
   ·repeat' ((conv=>whnf); first|with_reducible exact True.intro|exact vW|with_reducible refine And.intro ?_ ?_)
    all_goals exact Chk.mk ⟨rfl,twos3 _⟩
   dsimp only
   repeat' ((conv=>whnf); first|with_reducible refine wk_at 13 ?_|with_reducible refine wk_at1 13 ?_|with_reducible refine wk_at2 13 ?_|refine vA ?_|with_reducible first|refine v8 ?_|refine Ch.l ?_|refine Sp.mk ?_ ?_|refine vS ?_|refine vR ?_|refine vB ?_|refine br_nt ?_|refine br_tt ?_|refine br_ff ?_|refine vP ?_|refine vQ ?_|refine vT ?_|refine vF ?_|refine br_and ?_|refine br_or ?_|refine br_d (fun _=>?_) fun _=>?_|refine vM (fun _=>?_) fun _=>?_)
   ·rename_i hv hl2
    have hv':L.getD 0 ⟨#[]⟩∈twosW:=hv
    obtain ⟨N,hN⟩:∃ N:Nat,N=2:=⟨_,rfl⟩
    have hN2:(N=1∧L.getD 0 ⟨#[]⟩∈onesW∧L.length=2)∨(N=2∧L.getD 0 ⟨#[]⟩∈twosW∧L.length=3):=.inr ⟨hN,hv',by omega⟩
    refine ⟨Wk.go [(2,.ptr 0 0),(5,slS L),(8,.int .i64 N)] [.box (plC ⟨p,bs,rs⟩)] ⟨⟨[some 0],[],rfl,rfl,?_,?_⟩⟩ ?_⟩
    ·repeat' ((conv=>whnf); first|with_reducible exact True.intro|exact vW|with_reducible refine And.intro ?_ ?_)
     all_goals exact Chk.mk (by rw [hN]; rfl)
    ·exact wq
    clear hN
    revert N
    exact key.t
   ·rename_i hv hl2
    rw [askL_what (fun _ g=>absurd g hw) (fun e=>by omega)] at h
    exact h
   ·rename_i hv
    rw [askL_what (fun _ g=>absurd g hw) (fun _ g=>absurd g hv)] at h
    exact h
 ·intro N hN
  have hl2:L.length=N+1:=by omega
  have hN0:1≤N∧N≤2:=by omega
  dsimp only [plC]
  repeat' (first|refine vz ?_|(conv=>whnf); first|with_reducible first|refine Sp.mk ?_ ?_|refine br_d (fun _=>?_) fun _=>?_|refine vM (fun _=>?_) fun _=>?_)
  refine Lp.mk ⟨Nat,fun i=>[(2,.ptr 0 0),(5,slS L),(8,.int .i64 N),(9,.row 1 1 0 i),(47,.sl 1 N fun k=>encS (L.getD (1+k) ⟨#[]⟩)),(48,.int .i64 N),(49,.int .i64 i)],
   fun i=>[.box [.int .i64 p,slI bs,slS rs],.row 1 i fun j=>encI (digV (L.getD (j+1) ⟨#[]⟩))],fun i=>i≤N∧∀ j,j<i→isNum (L.getD (j+1) ⟨#[]⟩)=true,fun i=>N-i,⟨0,⟨Nat.zero_le _,fun j hj=>absurd hj (Nat.not_lt_zero _)⟩,⟨⟨[some 0,none],[],rfl,rfl,?_,?_⟩⟩⟩,?_⟩
  ·repeat' ((conv=>whnf); first|with_reducible exact True.intro|exact vW|with_reducible refine And.intro ?_ ?_)
   all_goals exact Chk.mk ⟨by show N=(L.length:Int).toNat-Int.toNat 1; omega,fun i _=>rfl⟩
  ·exact wq
  rintro i ⟨i1,i2⟩
  dsimp only
  repeat' (first|refine vz ?_|(conv=>whnf); first|with_reducible first|refine Sp.mk ?_ ?_|refine br_d (fun _=>?_) fun _=>?_|refine vM (fun _=>?_) fun _=>?_)
  ·rename_i hi
   have hi':i<N:=by omega
   have hj:1+i<L.length:=by omega
   refine ⟨L.getD (1+i) ⟨#[]⟩,?_,⟨by have:=hlm _ (getD_mem' (d:=⟨#[]⟩) hj); omega⟩,?_⟩
   ·exact wq
   intro v v1 v2
   repeat' (first|refine vz ?_|(conv=>whnf); first|with_reducible first|refine Sp.mk ?_ ?_|refine br_d (fun _=>?_) fun _=>?_|refine vM (fun _=>?_) fun _=>?_)
   ·rename_i hn
    have ev:=digV_read hn v2
    refine ⟨i+1,⟨by omega,fun j hj=>?_⟩,by omega,?_⟩
    ·by_cases e:j=i
     ·subst e; rw [Nat.add_comm]; exact hn
     ·exact i2 j (by omega)
    first|(refine ⟨⟨[some 0,some 3],[],rfl,rfl,?_,?_⟩⟩ <;> (repeat' ((conv=>whnf); first|with_reducible exact True.intro|exact vW|with_reducible refine And.intro ?_ ?_|exact Chk.mk ⟨rfl,rfl⟩|exact Chk.mk (fun_ext (by rw [Nat.add_comm i 1,← ev]; rfl)))) <;> fail)|(refine ⟨⟨[some 0,some 2],[],rfl,rfl,?_,?_⟩⟩ <;> (repeat' ((conv=>whnf); first|with_reducible exact True.intro|exact vW|with_reducible refine And.intro ?_ ?_|exact Chk.mk ⟨rfl,rfl⟩|exact Chk.mk (fun_ext (by rw [Nat.add_comm i 1,← ev]; rfl)))) <;> fail)
   ·rename_i hn
    rw [askL_what (fun e _=>by have e0:i=0:=(by omega); subst e0; exact hn) (fun e _=>by rcases (show i=0∨i=1 by omega) with rfl|rfl; exact .inl hn; exact .inr hn)] at h
    exact h
  ·rename_i hi
   obtain rfl:i=N:=by omega
   have n1:isNum (L.getD 1 ⟨#[]⟩)=true:=i2 0 (by omega)
   have d1:=digV_lt (L.getD 1 ⟨#[]⟩)
   have d0:=digV_isNum.2 n1
   have ha:askL ⟨p,bs,rs⟩ L=if digV (L.getD 1 ⟨#[]⟩)<rs.length then (if (i:Int)=2 then askT p bs (termR ⟨p,bs,rs⟩ (digV (L.getD 1 ⟨#[]⟩)).toNat) (L.getD 0 ⟨#[]⟩) (digV (L.getD 2 ⟨#[]⟩)) else askO p bs (termR ⟨p,bs,rs⟩ (digV (L.getD 1 ⟨#[]⟩)).toNat) (L.getD 0 ⟨#[]⟩)) else wNone:=by
    rcases hN with ⟨e,g1,g2⟩|⟨e,g1,g2⟩
    ·rw [askL_one g2 g1 n1,if_neg (show ¬ (i:Int)=2 by omega)]
    ·rw [askL_two g2 g1 n1 (i2 1 (by omega)),if_pos (show (i:Int)=2 by omega)]
   rw [ha] at h
   refine Dr.mk ⟨(.rd 0 (.rd 1 (.rd 2 (.rd 3 (.rd 4 (.rd 5 (.rd 6 .dn))))))),by decide +kernel,?_⟩
   repeat' (first|refine vz ?_|(conv=>whnf); first|with_reducible first|refine Sp.mk ?_ ?_|refine br_d (fun _=>?_) fun _=>?_|refine vM (fun _=>?_) fun _=>?_)
   ·rename_i hge
    have hge':digV (L.getD 1 ⟨#[]⟩)≥rs.length:=hge
    rw [if_neg (by omega)] at h
    exact h
   ·rename_i hlt2
    have hlt3:¬ digV (L.getD 1 ⟨#[]⟩)≥rs.length:=hlt2
    have hlt4:(digV (L.getD 1 ⟨#[]⟩)).toNat<rs.length:=by omega
    rw [if_pos (by omega)] at h
    obtain ⟨ht,hO2⟩:=termR_ok hO (digV (L.getD 1 ⟨#[]⟩)).toNat hlt4
    obtain ⟨hT,_⟩:=rdT_termI hI1 ht
    replace ht:rdT 49 ⟨p,bs⟩ (rs.getD (digV (L.getD 1 ⟨#[]⟩)).toNat ⟨#[]⟩)=some (termR ⟨p,bs,rs⟩ (digV (L.getD 1 ⟨#[]⟩)).toNat):=ht
    replace hO2:termOk ⟨p,bs⟩ (termR ⟨p,bs,rs⟩ (digV (L.getD 1 ⟨#[]⟩)).toNat):=hO2
    replace hT:termI ⟨p,bs⟩ (termR ⟨p,bs,rs⟩ (digV (L.getD 1 ⟨#[]⟩)).toNat):=hT
    generalize termR ⟨p,bs,rs⟩ (digV (L.getD 1 ⟨#[]⟩)).toNat=t at h ht hO2 hT
    have d0':0≤digV (L.getD (0+Int.toNat 0+1) ⟨#[]⟩):=d0
    have dt:digV (L.getD (0+Int.toNat 0+1) ⟨#[]⟩)<rs.length:=by omega
    refine Dr.mk ⟨(.rd 0 (.rd 1 (.rd 2 (.rd 3 (.rd 4 (.rd 5 (.rd 6 (.rd 7 (.rd 8 (.ef 9 (.rd 10 (.rd 11 (.rd 12 (.rd 13 (.rd 14 .dn))))) .no)))))))))),by decide +kernel,?_⟩
    repeat' (first|refine vz ?_|(conv=>whnf); first|with_reducible first|refine Sp.mk ?_ ?_|refine br_d (fun _=>?_) fun _=>?_|refine vM (fun _=>?_) fun _=>?_)
    refine ⟨⟨⟨p,bs⟩,rs.getD (digV (L.getD 1 ⟨#[]⟩)).toNat ⟨#[]⟩⟩,?_,⟨hI1,getD_len hI3 hlt4⟩,?_⟩
    ·exact wq
    refine And.intro (fun e=>?_) (fun u e=>?_)
    ·rw [show rdT 49 ⟨p,bs⟩ (rs.getD (digV (L.getD 1 ⟨#[]⟩)).toNat ⟨#[]⟩)=none from e] at ht
     cases ht
    ·rw [show rdT 49 ⟨p,bs⟩ (rs.getD (digV (L.getD 1 ⟨#[]⟩)).toNat ⟨#[]⟩)=some u from e] at ht
     cases ht
     repeat' (first|refine vz ?_|(conv=>whnf); first|with_reducible first|refine Sp.mk ?_ ?_|refine br_d (fun _=>?_) fun _=>?_|refine vM (fun _=>?_) fun _=>?_)
     ·rename_i h2
      rw [if_pos h2] at h
      refine Dr.mk ⟨(.rd 0 (.rd 1 (.rd 2 (.rd 3 (.rd 4 (.rd 5 (.rd 6 (.rd 7 (.rd 8 (.ef 9 (.rd 10 .dn) .no)))))))))),by decide +kernel,?_⟩
      repeat' (first|refine vz ?_|(conv=>whnf); first|with_reducible first|refine Sp.mk ?_ ?_|refine br_d (fun _=>?_) fun _=>?_|refine vM (fun _=>?_) fun _=>?_)
      refine ⟨⟨p,bs,t,L.getD 0 ⟨#[]⟩,digV (L.getD 2 ⟨#[]⟩)⟩,?_,⟨⟨hT,hO2⟩,by have:=digV_lt (L.getD 2 ⟨#[]⟩); unfold i64r; dsimp only; omega⟩,?_⟩
      ·exact wq
      repeat' (first|refine vz ?_|(conv=>whnf); first|with_reducible first|refine Sp.mk ?_ ?_|refine br_d (fun _=>?_) fun _=>?_|refine vM (fun _=>?_) fun _=>?_)
      exact h
     ·rename_i h2
      rw [if_neg h2] at h
      refine Dr.mk ⟨(.rd 0 (.rd 1 (.rd 2 (.rd 3 (.rd 4 (.rd 5 (.ef 6 (.rd 7 .dn) .no))))))),by decide +kernel,?_⟩
      repeat' (first|refine vz ?_|(conv=>whnf); first|with_reducible first|refine Sp.mk ?_ ?_|refine br_d (fun _=>?_) fun _=>?_|refine vM (fun _=>?_) fun _=>?_)
      refine ⟨⟨p,bs,t,L.getD 0 ⟨#[]⟩⟩,?_,⟨hT,hO2⟩,?_⟩
      ·exact wq
      repeat' (first|refine vz ?_|(conv=>whnf); first|with_reducible first|refine Sp.mk ?_ ?_|refine br_d (fun _=>?_) fun _=>?_|refine vM (fun _=>?_) fun _=>?_)
      exact h
end Go.Proofs.YtgdbhjmpkkbnnaaGreatDoor.Vc
end
section
/- Part QK: questions, by the reference. -/
namespace Go.Proofs.YtgdbhjmpkkbnnaaGreatDoor.Vc
open Go.Proofs
set_option maxRecDepth 100000
set_option maxHeartbeats 4000000
theorem walk_conn {bs:List Int}:∀ (t:List Mark) (k j:Nat),walkP bs t k=some j→∀ m∈t,¬ m.kind=0→m.at_=0∧m.need=0
 |[],_,_,_,m,hm,_=>by cases hm
 |x :: t,k,j,h,m,hm,hk=>by
  simp only [walkP] at h
  cases e:stepP bs x k with
  |none=>rw [e] at h; cases h
  |some i =>
   rw [e] at h
   rcases List.mem_cons.1 hm with rfl|hm
   ·unfold stepP at e
    split at e
    ·rename_i g; exact absurd g.1 hk
    ·split at e
     ·rename_i g; exact ⟨g.2.1,g.2.2.1⟩
     ·cases e
   ·exact walk_conn t i j h m hm hk
open Classical in
def C328:List AV→(AV→Prop)→Prop:=con (X:=House × List Mark) (fun x=>[enH x.1,slM x.2]) (fun x=>termI x.1 x.2) fun x K=>K (slM (if termOk x.1 x.2 then dualT x.1.bs x.2 else []))
theorem F328:FF 81 C328:=by
 refine fitXE [(108,C33),(113,C48)] (by simp only [List.mem_cons,List.not_mem_nil,or_false]; rintro _ (rfl|rfl) <;> first|exact F33|exact F48) [] (by simp) Tryz.f81 ⟨rfl,by decide +kernel,by decide +kernel⟩ (by intro x K K2 hk h; (try dsimp only at h ⊢); intros; apply hk; first|exact h|(apply h <;> assumption)) ?_
 rintro ⟨⟨p,bs⟩,t⟩ K hI h
 refine ⟨Nat.le_of_ble_eq_true rfl,?_⟩
 dsimp only [enH] at h hI ⊢
 have hl:=hI.2.2.2
 repeat' (first|refine vz ?_|(conv=>whnf); first|with_reducible first|refine Sp.mk ?_ ?_|refine br_d (fun _=>?_) fun _=>?_|refine vM (fun _=>?_) fun _=>?_)
 refine Lp.mk ⟨Nat,fun i=>[(1,slM t),(2,.ptr 0 0),(5,.row 1 3 0 i),(6,.int .i64 i)],
  fun i=>[.box [.int .i64 p,slI bs],.row 3 i fun j=>encM ((dualT bs (t.take i)).getD j default)],fun i=>i≤t.length∧(0<i→termOk ⟨p,bs⟩ t),fun i=>t.length-i,⟨0,⟨Nat.zero_le _,fun h=>absurd h (Nat.lt_irrefl _)⟩,⟨⟨[some 0,none],[],rfl,rfl,?_,?_⟩⟩⟩,?_⟩
 ·exact wq
 ·exact wq
 rintro i ⟨i1,i2⟩
 dsimp only
 by_cases hi:i<t.length
 ·by_cases hO:termOk ⟨p,bs⟩ t
  ·rw [if_pos hO] at h
   have hg:∀ m∈t,goodM bs m:=walk_good t 0 1 hO.2.2
   have hc:∀ m∈t,¬ m.kind=0→m.at_=0∧m.need=0:=walk_conn t 0 1 hO.2.2
   have ht9:t.length≤9:=hO.2.1
   have pp:people p:=hO.1.1
   have pl:=pw_le pp
   have e0:((i:Nat):Int).toNat=i:=rfl
   repeat' (first|refine vz ?_|(conv=>whnf); first|with_reducible first|refine Sp.mk ?_ ?_|refine br_d (fun _=>?_) fun _=>?_|refine vM (fun _=>?_) fun _=>?_)
   refine ⟨(⟨p,bs⟩,t),?_,⟨hI⟩,?_⟩
   ·exact wq
   dsimp only
   rw [decide_eq_true hO]
   repeat' (first|refine vz ?_|(conv=>whnf); first|with_reducible first|refine Sp.mk ?_ ?_|refine br_d (fun _=>?_) fun _=>?_|refine vM (fun _=>?_) fun _=>?_)
   ·rename_i hk
    have hk':(t.getD i default).kind=1:=hk
    have hk0:¬ (t.getD i default).kind=0:=by omega
    obtain ⟨c1,c2⟩:=hc _ (getD_mem' (l:=t) (i:=i) (d:=default) hi) hk0
    refine ⟨i+1,⟨by omega,fun _=>hO⟩,by omega,?_⟩
    first|(refine ⟨⟨[some 0,some 3],[],rfl,rfl,?_,?_⟩⟩ <;> (repeat' ((conv=>whnf); first|with_reducible exact True.intro|exact vW|with_reducible refine And.intro ?_ ?_|exact Chk.mk (dual_ext hi (by unfold dualM; rw [if_neg hk0,if_pos hk',c1,c2]; rfl)))) <;> fail)|(refine ⟨⟨[some 0,some 2],[],rfl,rfl,?_,?_⟩⟩ <;> (repeat' ((conv=>whnf); first|with_reducible exact True.intro|exact vW|with_reducible refine And.intro ?_ ?_|exact Chk.mk (dual_ext hi (by unfold dualM; rw [if_neg hk0,if_pos hk',c1,c2]; rfl)))) <;> fail)
   ·rename_i hk1 hk
    have hk':(t.getD i default).kind=2:=hk
    have hk0:¬ (t.getD i default).kind=0:=by omega
    obtain ⟨c1,c2⟩:=hc _ (getD_mem' (l:=t) (i:=i) (d:=default) hi) hk0
    refine ⟨i+1,⟨by omega,fun _=>hO⟩,by omega,?_⟩
    first|(refine ⟨⟨[some 0,some 3],[],rfl,rfl,?_,?_⟩⟩ <;> (repeat' ((conv=>whnf); first|with_reducible exact True.intro|exact vW|with_reducible refine And.intro ?_ ?_|exact Chk.mk (dual_ext hi (by unfold dualM; rw [if_neg hk0,if_neg (by omega),c1,c2]; rfl)))) <;> fail)|(refine ⟨⟨[some 0,some 2],[],rfl,rfl,?_,?_⟩⟩ <;> (repeat' ((conv=>whnf); first|with_reducible exact True.intro|exact vW|with_reducible refine And.intro ?_ ?_|exact Chk.mk (dual_ext hi (by unfold dualM; rw [if_neg hk0,if_neg (by omega),c1,c2]; rfl)))) <;> fail)
   ·rename_i hk1 hk2
    have hk1':¬ (t.getD i default).kind=1:=hk1
    have hk2':¬ (t.getD i default).kind=2:=hk2
    have hm:=hg _ (getD_mem' (l:=t) (i:=i) (d:=default) hi)
    rcases hm with ⟨hk',g1,g2,g3,g4⟩|g|g <;> try omega
    have hb:=body_ok (p:=p) (bs:=bs) hO.1.2.2 g1 g2
    have hh:=heads_le (bs.getD (t.getD i default).at_.toNat 0).toNat
    have g1':0≤(t.getD ((i:Nat):Int).toNat default).at_:=g1
    have g2':(t.getD ((i:Nat):Int).toNat default).at_<bs.length:=g2
    have g3':1≤(t.getD ((i:Nat):Int).toNat default).need:=g3
    have g4':(t.getD ((i:Nat):Int).toNat default).need≤((heads (bs.getD (t.getD ((i:Nat):Int).toNat default).at_.toNat 0).toNat:Nat):Int):=g4
    have hh':heads (bs.getD (t.getD ((i:Nat):Int).toNat default).at_.toNat 0).toNat≤64:=hh
    refine Dr.mk ⟨(.rd 0 (.rd 1 (.rd 2 (.rd 3 (.rd 4 (.rd 5 (.rd 6 (.rd 7 (.rd 8 (.rd 9 (.rd 10 (.rd 11 (.rd 12 (.rd 13 (.rd 14 (.rd 17 (.rd 18 (.rd 19 (.rd 20 (.rd 21 (.ef 15 (.rd 16 (.rd 22 (.rd 23 (.ef 24 (.ef 25 (.rd 26 .dn) .no) .no)))) .no))))))))))))))))))))),by decide +kernel,?_⟩
    repeat' (first|refine vz ?_|(conv=>whnf); first|with_reducible first|refine Sp.mk ?_ ?_|refine br_d (fun _=>?_) fun _=>?_|refine vM (fun _=>?_) fun _=>?_)
    refine ⟨bs.getD (t.getD i default).at_.toNat 0,?_,⟨by have:=hb.2.1; omega,by have:=hb.2.2; omega⟩,?_⟩
    ·exact wq
    repeat' (first|refine vz ?_|(conv=>whnf); first|with_reducible first|refine Sp.mk ?_ ?_|refine br_d (fun _=>?_) fun _=>?_|refine vM (fun _=>?_) fun _=>?_)
    refine ⟨i+1,⟨by omega,fun _=>hO⟩,by omega,?_⟩
    first|(refine ⟨⟨[some 0,some 3],[],rfl,rfl,?_,?_⟩⟩ <;> (repeat' ((conv=>whnf); first|with_reducible exact True.intro|exact vW|with_reducible refine And.intro ?_ ?_|exact Chk.mk (dual_ext hi (by unfold dualM; rw [if_pos hk']; rfl)))) <;> fail)|(refine ⟨⟨[some 0,some 2],[],rfl,rfl,?_,?_⟩⟩ <;> (repeat' ((conv=>whnf); first|with_reducible exact True.intro|exact vW|with_reducible refine And.intro ?_ ?_|exact Chk.mk (dual_ext hi (by unfold dualM; rw [if_pos hk']; rfl)))) <;> fail)
  ·rw [if_neg hO] at h
   have hi0:i=0:=by
    rcases Nat.eq_zero_or_pos i with e|e
    ·exact e
    ·exact absurd (i2 e) hO
   subst hi0
   repeat' (first|refine vz ?_|(conv=>whnf); first|with_reducible first|refine Sp.mk ?_ ?_|refine br_d (fun _=>?_) fun _=>?_|refine vM (fun _=>?_) fun _=>?_)
   refine ⟨(⟨p,bs⟩,t),?_,⟨hI⟩,?_⟩
   ·exact wq
   dsimp only
   rw [decide_eq_false hO]
   repeat' (first|refine vz ?_|(conv=>whnf); first|with_reducible first|refine Sp.mk ?_ ?_|refine br_d (fun _=>?_) fun _=>?_|refine vM (fun _=>?_) fun _=>?_)
   refine ⟨_,?_,h⟩
   repeat' ((conv=>whnf); first|with_reducible exact True.intro|exact vW|with_reducible refine And.intro ?_ ?_)
   all_goals exact Chk.mk ⟨rfl,fun i hi=>absurd hi (Nat.not_lt_zero _)⟩
 ·have ei:t.take i=t:=List.take_of_length_le (by omega)
  have hr:(if termOk ⟨p,bs⟩ t then dualT bs t else [])=dualT bs (t.take i):=by
   rw [ei]
   by_cases hO:termOk ⟨p,bs⟩ t
   ·rw [if_pos hO]
   ·have:i=0:=by
     rcases Nat.eq_zero_or_pos i with e|e
     ·exact e
     ·exact absurd (i2 e) hO
    have ht:t=[]:=List.length_eq_zero_iff.1 (by omega)
    rw [if_neg hO,ht]
    rfl
  rw [hr] at h
  repeat' (first|refine vz ?_|(conv=>whnf); first|with_reducible first|refine Sp.mk ?_ ?_|refine br_d (fun _=>?_) fun _=>?_|refine vM (fun _=>?_) fun _=>?_)
  refine ⟨_,?_,h⟩
  repeat' ((conv=>whnf); first|with_reducible exact True.intro|exact vW|with_reducible refine And.intro ?_ ?_)
  all_goals exact Chk.mk ⟨by rw [dualT,List.length_map,List.length_take]; omega,fun j hj=>by dsimp only; rw [Nat.zero_add]⟩
def C323:=C319
theorem F323:FF 82 C323:=by
 refine fitE [] (by simp) Tryz.f82 ⟨rfl,by decide +kernel,by decide +kernel⟩ (fun _ _ _ hk h=>hk _ h) ?_
 rintro b K _ h
 refine ⟨Nat.le_of_ble_eq_true rfl,?_⟩
 unfold yn at h
 cases b
 ·rw [if_neg Bool.false_ne_true] at h
  repeat' (first|refine vz ?_|(conv=>whnf); first|with_reducible first|refine Sp.mk ?_ ?_|refine br_d (fun _=>?_) fun _=>?_|refine vM (fun _=>?_) fun _=>?_)
  exact h
 ·rw [if_pos rfl] at h
  repeat' (first|refine vz ?_|(conv=>whnf); first|with_reducible first|refine Sp.mk ?_ ?_|refine br_d (fun _=>?_) fun _=>?_|refine vM (fun _=>?_) fun _=>?_)
  exact h
end Go.Proofs.YtgdbhjmpkkbnnaaGreatDoor.Vc
end
section
/- Part QL: questions about rules, by the reference. -/
namespace Go.Proofs.YtgdbhjmpkkbnnaaGreatDoor.Vc
open Go.Proofs
set_option maxRecDepth 100000
set_option maxHeartbeats 4000000
def C106w:List AV→(AV→Prop)→Prop:=con (X:=Int) (fun n=>[.int .i64 n]) (fun n=>-1≤n∧n≤9223372036854775807) fun n K=>K (.str (num n))
theorem num_m1:num (-1)=num 0:=rfl
theorem F106w:FF 72 C106w:=by
 refine fitE [(72,C106)] (by simp only [List.mem_cons,List.not_mem_nil,or_false]; rintro _ rfl; exact F106) Tryz.f72 ⟨rfl,by decide +kernel,by decide +kernel⟩ (fun _ _ _ hk h=>hk _ h) ?_
 rintro n K ⟨h1,h2⟩ h
 refine ⟨Nat.le_of_ble_eq_true rfl,?_⟩
 by_cases hn:n=-1
 ·subst hn
  repeat' (first|refine vz ?_|(conv=>whnf); first|with_reducible first|refine Sp.mk ?_ ?_|refine br_d (fun _=>?_) fun _=>?_|refine vM (fun _=>?_) fun _=>?_)
  ·(conv=>whnf)
   repeat' ((conv=>whnf); first|refine ⟨Chk.mk ⟨by decide,by decide,fun i hi=>by obtain rfl:i=0:=by omega; exact ⟨_,rfl⟩⟩,?_⟩|refine vA ?_|with_reducible first|refine v8 ?_|refine Ch.l ?_|refine Sp.mk ?_ ?_|refine vS ?_|refine vR ?_|refine vB ?_|refine br_nt ?_|refine br_tt ?_|refine br_ff ?_|refine vP ?_|refine vQ ?_|refine vT ?_|refine vF ?_|refine br_and ?_|refine br_or ?_|refine br_d (fun _=>?_) fun _=>?_|refine vM (fun _=>?_) fun _=>?_)
   rw [str1]
   rw [num_m1,num_small (by decide) (by decide)] at h
   exact h
 ·repeat' (first|refine vz ?_|(conv=>whnf); first|with_reducible first|refine Sp.mk ?_ ?_|refine br_d (fun _=>?_) fun _=>?_|refine vM (fun _=>?_) fun _=>?_)
  ·(conv=>whnf)
   rw [if_neg (by omega:¬ 0 > n)]
   repeat' ((conv=>whnf); first|refine ⟨Chk.mk ⟨by decide,by decide,fun i hi=>by obtain rfl:i=0:=by omega; exact ⟨_,rfl⟩⟩,?_⟩|refine vA ?_|with_reducible first|refine v8 ?_|refine Ch.l ?_|refine Sp.mk ?_ ?_|refine vS ?_|refine vR ?_|refine vB ?_|refine br_nt ?_|refine br_tt ?_|refine br_ff ?_|refine vP ?_|refine vQ ?_|refine vT ?_|refine vF ?_|refine br_and ?_|refine br_or ?_|refine br_d (fun _=>?_) fun _=>?_|refine vM (fun _=>?_) fun _=>?_)
   rw [str1,show (48+n).toNat=48+n.toNat by omega,← num_small (by omega) (by omega)]
   exact h
  ·refine Dr.mk ⟨(.rd 0 (.rd 1 (.rd 3 (.rd 4 (.rd 5 (.rd 6 (.ef 2 (.ef 7 (.rd 8 (.rd 9 (.rd 10 .dn))) .no) (.ef 7 (.rd 8 (.ef 2 (.rd 9 (.rd 10 .dn)) .no)) .no)))))))),by decide +kernel,?_⟩
   repeat' (first|refine vz ?_|(conv=>whnf); first|with_reducible first|refine Sp.mk ?_ ?_|refine br_d (fun _=>?_) fun _=>?_|refine vM (fun _=>?_) fun _=>?_)
   (conv=>whnf)
   rw [Int.tdiv_eq_ediv_of_nonneg (by omega)]
   repeat' (first|refine vz ?_|(conv=>whnf); first|with_reducible first|refine Sp.mk ?_ ?_|refine br_d (fun _=>?_) fun _=>?_|refine vM (fun _=>?_) fun _=>?_)
   (conv=>whnf)
   rw [Int.tmod_eq_emod_of_nonneg (by omega)]
   repeat' ((conv=>whnf); first|refine ⟨Chk.mk ⟨by decide,by decide,fun i hi=>by obtain rfl:i=0:=by omega; exact ⟨_,rfl⟩⟩,?_⟩|refine vA ?_|with_reducible first|refine v8 ?_|refine Ch.l ?_|refine Sp.mk ?_ ?_|refine vS ?_|refine vR ?_|refine vB ?_|refine br_nt ?_|refine br_tt ?_|refine br_ff ?_|refine vP ?_|refine vQ ?_|refine vT ?_|refine vF ?_|refine br_and ?_|refine br_or ?_|refine br_d (fun _=>?_) fun _=>?_|refine vM (fun _=>?_) fun _=>?_)
   all_goals
    refine ⟨n / 10,?_,⟨by omega,by omega⟩,?_⟩
    ·exact wq
    have hsz:(num (n / 10)).size+1≤9223372036854775807:=by have:=num_le (n / 10); omega
    repeat' ((conv=>whnf); first|refine ⟨Chk.mk (by rw [str1]; exact hsz),?_⟩|refine ⟨Chk.mk ⟨by decide,by decide,fun i hi=>by obtain rfl:i=0:=by omega; exact ⟨_,rfl⟩⟩,?_⟩|refine vA ?_|with_reducible first|refine v8 ?_|refine Ch.l ?_|refine Sp.mk ?_ ?_|refine vS ?_|refine vR ?_|refine vB ?_|refine br_nt ?_|refine br_tt ?_|refine br_ff ?_|refine vP ?_|refine vQ ?_|refine vT ?_|refine vF ?_|refine br_and ?_|refine br_or ?_|refine br_d (fun _=>?_) fun _=>?_|refine vM (fun _=>?_) fun _=>?_)
    rw [str1,show (48+n % 10).toNat=48+n.toNat % 10 by omega,← num_big (by omega)]
    exact h
theorem no_term (h:House):¬ termOk h []:=fun q=>by
 have:(some 0:Option Nat)=some 1:=q.2.2
 exact absurd this (by decide)
structure Pn where
 x:Place
 n:Int
def C322:List AV→(AV→Prop)→Prop:=con (X:=Pn) (fun x=>[enPl x.x,.int .i64 x.n]) (fun x=>(placeI x.x∧placeOk x.x)∧0≤x.n∧x.n<1000000) fun x K=>K (.tup [slM (if x.n<x.x.rules.length then termR x.x x.n.toNat else []),.bool (decide (x.n<x.x.rules.length))])
theorem F322:FF 75 C322:=by
 refine fitXE [(74,C35),(101,C153)] (by simp only [List.mem_cons,List.not_mem_nil,or_false]; rintro _ (rfl|rfl) <;> first|exact F35|exact F153) [] (by simp) Tryz.f75 ⟨rfl,by decide +kernel,by decide +kernel⟩ (by intro x K K2 hk h; (try dsimp only at h ⊢); intros; apply hk; first|exact h|(apply h <;> assumption)) ?_
 rintro ⟨⟨p,bs,rs⟩,n⟩ K ⟨⟨hI,hO⟩,h0,h1⟩ h
 refine ⟨Nat.le_of_ble_eq_true rfl,?_⟩
 have hI1:=hI.1
 have hI2:=hI.2.1
 have hI3:=hI.2.2
 dsimp only [enPl,plC] at h hI2 hI3 h0 h1 ⊢
 repeat' (first|refine vz ?_|(conv=>whnf); first|with_reducible first|refine Sp.mk ?_ ?_|refine br_d (fun _=>?_) fun _=>?_|refine vM (fun _=>?_) fun _=>?_)
 refine ⟨(n,0,(rs.length:Int)-1),?_,⟨trivial⟩,?_⟩
 ·exact wq
 repeat' (first|refine vz ?_|(conv=>whnf); first|with_reducible first|refine Sp.mk ?_ ?_|refine br_d (fun _=>?_) fun _=>?_|refine vM (fun _=>?_) fun _=>?_)
 ·rename_i q
  replace q:0≤n∧n≤(rs.length:Int)-1:=q
  have hn:n<rs.length:=by omega
  have hn2:n.toNat<rs.length:=by omega
  obtain ⟨ht,hT⟩:=termR_ok hO n.toNat hn2
  replace ht:rdT 49 ⟨p,bs⟩ (rs.getD n.toNat ⟨#[]⟩)=some (termR ⟨p,bs,rs⟩ n.toNat):=ht
  rw [if_pos hn,decide_eq_true hn] at h
  generalize termR ⟨p,bs,rs⟩ n.toNat=t at h ht hT
  have ht2:rdT 48 ⟨p,bs⟩ (rs.getD n.toNat ⟨#[]⟩)=some t:=(rdT_iff (by decide)).2 ((rdT_iff (by decide)).1 ht)
  refine Dr.mk ⟨(.rd 0 (.rd 1 (.rd 2 (.rd 3 (.rd 4 (.rd 5 (.rd 6 (.ef 7 (.rd 8 (.rd 9 (.rd 10 (.rd 11 .dn)))) .no)))))))),by decide +kernel,?_⟩
  repeat' (first|refine vz ?_|(conv=>whnf); first|with_reducible first|refine Sp.mk ?_ ?_|refine br_d (fun _=>?_) fun _=>?_|refine vM (fun _=>?_) fun _=>?_)
  refine ⟨⟨⟨p,bs⟩,rs.getD n.toNat ⟨#[]⟩⟩,?_,⟨hI1,getD_len hI3 hn2⟩,?_⟩
  ·exact wq
  refine And.intro (fun e=>?_) (fun u e=>?_)
  ·rw [show rdT 48 ⟨p,bs⟩ (rs.getD n.toNat ⟨#[]⟩)=none from e] at ht2
   cases ht2
  ·rw [show rdT 48 ⟨p,bs⟩ (rs.getD n.toNat ⟨#[]⟩)=some u from e] at ht2
   cases ht2
   repeat' (first|refine vz ?_|(conv=>whnf); first|with_reducible first|refine Sp.mk ?_ ?_|refine br_d (fun _=>?_) fun _=>?_|refine vM (fun _=>?_) fun _=>?_)
   refine ⟨_,?_,h⟩
   repeat' ((conv=>whnf); first|with_reducible exact True.intro|exact vW|with_reducible refine And.intro ?_ ?_)
 ·rename_i q
  replace q:¬ (0≤n∧n≤(rs.length:Int)-1):=q
  have hn:¬ n<rs.length:=by omega
  rw [if_neg hn,decide_eq_false hn] at h
  repeat' (first|refine vz ?_|(conv=>whnf); first|with_reducible first|refine Sp.mk ?_ ?_|refine br_d (fun _=>?_) fun _=>?_|refine vM (fun _=>?_) fun _=>?_)
  refine ⟨_,?_,h⟩
  repeat' ((conv=>whnf); first|with_reducible exact True.intro|exact vW|with_reducible refine And.intro ?_ ?_)
  all_goals exact Chk.mk ⟨rfl,fun i hi=>absurd hi (Nat.not_lt_zero _)⟩
theorem askO_least {p bs t}:askO p bs t wLeast=listT (leastF (sayl bs t (pw p).toNat) (pw p).toNat):=by unfold askO; rw [if_pos rfl]
theorem askO_count {p bs t}:askO p bs t wCount=num (sayl bs t (pw p).toNat).length:=by unfold askO; rw [if_neg (by decide),if_pos rfl]
theorem askO_needed {p bs t}:askO p bs t wNeeded=num (needF p bs t p.toNat):=by unfold askO; rw [if_neg (by decide),if_neg (by decide),if_pos rfl]
theorem askO_idle {p bs t}:askO p bs t wIdle=num (idleF bs t (pw p).toNat p.toNat):=by unfold askO; rw [if_neg (by decide),if_neg (by decide),if_neg (by decide),if_pos rfl]
theorem askO_dual {p bs t}:askO p bs t wDual=textT (dualT bs t):=by unfold askO; rw [if_neg (by decide),if_neg (by decide),if_neg (by decide),if_neg (by decide),if_pos rfl]
theorem askO_dec {p bs t}:askO p bs t wDecisive=yn (decB p bs t (pw p).toNat):=by unfold askO; rw [if_neg (by decide),if_neg (by decide),if_neg (by decide),if_neg (by decide),if_neg (by decide),if_pos rfl]
theorem askO_clash {p bs t}:askO p bs t wClash=yn (claB p bs t (pw p).toNat):=by unfold askO; rw [if_neg (by decide),if_neg (by decide),if_neg (by decide),if_neg (by decide),if_neg (by decide),if_neg (by decide)]
theorem num_what:¬ num (-1)=wWhat:=by
 rw [num_m1,num_small (by decide) (by decide)]
 decide
structure A1 where
 x:Place
 w:ByteArray
 n:Int
theorem termI_nil {p:Int} {bs:List Int} (h:houI ⟨p,bs⟩):termI ⟨p,bs⟩ []:=⟨h.1,h.2,fun m hm=>(by cases hm),(by decide:0<9223372036854775808)⟩
theorem dual_termI {p:Int} {bs:List Int} {t:List Mark} (hI:termI ⟨p,bs⟩ t) (hO:termOk ⟨p,bs⟩ t):termI ⟨p,bs⟩ (dualT bs t):=by
 refine ⟨hI.1,hI.2.1,fun m hm=>?_,by rw [dualT,List.length_map]; exact hI.2.2.2⟩
 obtain ⟨x,hx,rfl⟩:=List.mem_map.1 hm
 have h1:=hI.2.2.1 x hx
 have h2:=walk_good t 0 1 hO.2.2 x hx
 have hh:=heads_le (bs.getD x.at_.toNat 0).toNat
 unfold dualM
 split
 ·rcases h2 with ⟨_,g1,g2,g3,g4⟩|g|g <;> try omega
  have g4':x.need≤((heads (bs.getD x.at_.toNat 0).toNat:Nat):Int):=g4
  exact ⟨by unfold i64r; dsimp only; omega,h1.2.1,by unfold i64r; dsimp only; omega⟩
 ·split
  ·exact ⟨by unfold i64r; dsimp only; omega,h1.2.1,h1.2.2⟩
  ·exact ⟨by unfold i64r; dsimp only; omega,h1.2.1,h1.2.2⟩
def C320:List AV→(AV→Prop)→Prop:=con (X:=A1) (fun x=>[enPl x.x,.str x.w,.int .i64 x.n]) (fun x=>(placeI x.x∧placeOk x.x)∧0≤x.n∧x.n<1000000) fun x K=>K (.str (askOne x.x x.w x.n))
theorem F320:FF 44 C320:=by
 refine fitE [(75,C322),(76,C324),(73,C165),(77,C325),(72,C106w),(78,C326),(79,C327),(81,C328),(80,C173),(83,C329),(82,C323),(84,C330)] (by simp only [List.mem_cons,List.not_mem_nil,or_false]; rintro _ (rfl|rfl|rfl|rfl|rfl|rfl|rfl|rfl|rfl|rfl|rfl|rfl) <;> first|exact F322|exact F324|exact F165|exact F325|exact F106w|exact F326|exact F327|exact F328|exact F173|exact F329|exact F323|exact F330) Tryz.f44 ⟨rfl,by decide +kernel,by decide +kernel⟩ (fun _ _ _ hk h=>hk _ h) ?_
 rintro ⟨⟨p,bs,rs⟩,w,n⟩ K ⟨⟨hI,hO⟩,h0,h1⟩ h
 refine ⟨Nat.le_of_ble_eq_true rfl,?_⟩
 have hI1:houI ⟨p,bs⟩:=hI.1
 dsimp only [enPl,plC] at h h0 h1 ⊢
 repeat' (first|refine vz ?_|(conv=>whnf); first|with_reducible first|refine Sp.mk ?_ ?_|refine br_d (fun _=>?_) fun _=>?_|refine vM (fun _=>?_) fun _=>?_)
 refine ⟨⟨⟨p,bs,rs⟩,n⟩,?_,⟨⟨hI,hO⟩,h0,h1⟩,?_⟩
 ·exact wq
 dsimp only
 unfold askOne at h
 by_cases hn:n<rs.length
 ·obtain ⟨ht,hT⟩:=termR_ok hO n.toNat (by dsimp only; omega)
  obtain ⟨hTI,_⟩:=rdT_termI hI1 ht
  replace hT:termOk ⟨p,bs⟩ (termR ⟨p,bs,rs⟩ n.toNat):=hT
  replace hTI:termI ⟨p,bs⟩ (termR ⟨p,bs,rs⟩ n.toNat):=hTI
  dsimp only at h
  rw [if_pos hn] at h ⊢
  rw [decide_eq_true hn]
  generalize termR ⟨p,bs,rs⟩ n.toNat=t at h hT hTI ⊢
  have i1:=idle_le hT (pw p).toNat
  have i2:=need_le hT
  have i3:=count_le hT
  have hd:=termOk_dual hT
  have hnl:¬ (leastF (sayl bs t (pw p).toNat) (pw p).toNat).length=0:=fun e=>least_some hT (List.length_eq_zero_iff.1 e)
  repeat' (first|refine vz ?_|(conv=>whnf); first|with_reducible first|refine Sp.mk ?_ ?_|refine br_d (fun _=>?_) fun _=>?_|refine vM (fun _=>?_) fun _=>?_)
  ·rename_i q
   subst q
   rw [if_pos (by decide),askO_least] at h
   refine ⟨(⟨p,bs⟩,t),?_,⟨hTI⟩,?_⟩
   ·exact wq
   dsimp only
   rw [if_pos hT]
   repeat' (first|refine vz ?_|(conv=>whnf); first|with_reducible first|refine Sp.mk ?_ ?_|refine br_d (fun _=>?_) fun _=>?_|refine vM (fun _=>?_) fun _=>?_)
   refine ⟨_,?_,⟨least_small hT⟩,?_⟩
   ·exact wq
   dsimp only
   rw [if_neg hnl]
   repeat' (first|refine vz ?_|(conv=>whnf); first|with_reducible first|refine Sp.mk ?_ ?_|refine br_d (fun _=>?_) fun _=>?_|refine vM (fun _=>?_) fun _=>?_)
   exact h
  ·rename_i q
   subst q
   rw [if_pos (by decide),askO_count] at h
   refine ⟨(⟨p,bs⟩,t),?_,⟨hTI⟩,?_⟩
   ·exact wq
   dsimp only
   rw [if_pos hT]
   repeat' (first|refine vz ?_|(conv=>whnf); first|with_reducible first|refine Sp.mk ?_ ?_|refine br_d (fun _=>?_) fun _=>?_|refine vM (fun _=>?_) fun _=>?_)
   refine ⟨_,?_,⟨(by omega:-1≤((sayl bs t (pw p).toNat).length:Int)∧((sayl bs t (pw p).toNat).length:Int)≤9223372036854775807)⟩,?_⟩
   ·exact wq
   repeat' (first|refine vz ?_|(conv=>whnf); first|with_reducible first|refine Sp.mk ?_ ?_|refine br_d (fun _=>?_) fun _=>?_|refine vM (fun _=>?_) fun _=>?_)
   exact h
  ·rename_i q
   subst q
   rw [if_pos (by decide),askO_needed] at h
   refine ⟨(⟨p,bs⟩,t),?_,⟨hTI⟩,?_⟩
   ·exact wq
   dsimp only
   rw [if_pos hT]
   repeat' (first|refine vz ?_|(conv=>whnf); first|with_reducible first|refine Sp.mk ?_ ?_|refine br_d (fun _=>?_) fun _=>?_|refine vM (fun _=>?_) fun _=>?_)
   refine ⟨_,?_,⟨(by omega:-1≤needF p bs t p.toNat∧needF p bs t p.toNat≤9223372036854775807)⟩,?_⟩
   ·exact wq
   repeat' (first|refine vz ?_|(conv=>whnf); first|with_reducible first|refine Sp.mk ?_ ?_|refine br_d (fun _=>?_) fun _=>?_|refine vM (fun _=>?_) fun _=>?_)
   exact h
  ·rename_i q
   subst q
   rw [if_pos (by decide),askO_idle] at h
   refine ⟨(⟨p,bs⟩,t),?_,⟨hTI⟩,?_⟩
   ·exact wq
   dsimp only
   rw [if_pos hT]
   repeat' (first|refine vz ?_|(conv=>whnf); first|with_reducible first|refine Sp.mk ?_ ?_|refine br_d (fun _=>?_) fun _=>?_|refine vM (fun _=>?_) fun _=>?_)
   refine ⟨_,?_,⟨(by omega:-1≤idleF bs t (pw p).toNat p.toNat∧idleF bs t (pw p).toNat p.toNat≤9223372036854775807)⟩,?_⟩
   ·exact wq
   repeat' (first|refine vz ?_|(conv=>whnf); first|with_reducible first|refine Sp.mk ?_ ?_|refine br_d (fun _=>?_) fun _=>?_|refine vM (fun _=>?_) fun _=>?_)
   exact h
  ·rename_i q
   subst q
   rw [if_pos (by decide),askO_dual] at h
   refine Dr.mk ⟨(.rd 0 (.rd 1 (.rd 2 (.rd 3 (.rd 4 (.ef 5 (.ef 6 (.rd 7 .dn) .no) .no)))))),by decide +kernel,?_⟩
   repeat' (first|refine vz ?_|(conv=>whnf); first|with_reducible first|refine Sp.mk ?_ ?_|refine br_d (fun _=>?_) fun _=>?_|refine vM (fun _=>?_) fun _=>?_)
   refine ⟨(⟨p,bs⟩,t),?_,⟨hTI⟩,?_⟩
   ·exact wq
   dsimp only
   rw [if_pos hT]
   repeat' (first|refine vz ?_|(conv=>whnf); first|with_reducible first|refine Sp.mk ?_ ?_|refine br_d (fun _=>?_) fun _=>?_|refine vM (fun _=>?_) fun _=>?_)
   refine ⟨(⟨p,bs⟩,dualT bs t),?_,⟨dual_termI hTI hT⟩,?_⟩
   ·exact wq
   unfold ttext
   dsimp only
   rw [if_pos hd]
   repeat' (first|refine vz ?_|(conv=>whnf); first|with_reducible first|refine Sp.mk ?_ ?_|refine br_d (fun _=>?_) fun _=>?_|refine vM (fun _=>?_) fun _=>?_)
   exact h
  ·rename_i q
   subst q
   rw [if_pos (by decide),askO_dec] at h
   refine ⟨(⟨p,bs⟩,t),?_,⟨hTI⟩,?_⟩
   ·exact wq
   dsimp only
   rw [decide_eq_true hT,Bool.true_and]
   repeat' (first|refine vz ?_|(conv=>whnf); first|with_reducible first|refine Sp.mk ?_ ?_|refine br_d (fun _=>?_) fun _=>?_|refine vM (fun _=>?_) fun _=>?_)
   refine ⟨decB p bs t (pw p).toNat,?_,⟨trivial⟩,?_⟩
   ·exact wq
   repeat' (first|refine vz ?_|(conv=>whnf); first|with_reducible first|refine Sp.mk ?_ ?_|refine br_d (fun _=>?_) fun _=>?_|refine vM (fun _=>?_) fun _=>?_)
   exact h
  ·rename_i q
   subst q
   rw [if_pos (by decide),askO_clash] at h
   refine ⟨(⟨p,bs⟩,t),?_,⟨hTI⟩,?_⟩
   ·exact wq
   dsimp only
   rw [decide_eq_true hT,Bool.true_and]
   repeat' (first|refine vz ?_|(conv=>whnf); first|with_reducible first|refine Sp.mk ?_ ?_|refine br_d (fun _=>?_) fun _=>?_|refine vM (fun _=>?_) fun _=>?_)
   refine ⟨claB p bs t (pw p).toNat,?_,⟨trivial⟩,?_⟩
   ·exact wq
   repeat' (first|refine vz ?_|(conv=>whnf); first|with_reducible first|refine Sp.mk ?_ ?_|refine br_d (fun _=>?_) fun _=>?_|refine vM (fun _=>?_) fun _=>?_)
   exact h
  ·rename_i q1 q2 q3 q4 q5 q6 q7
   rw [if_neg (by unfold onesW; simp only [List.mem_cons,List.not_mem_nil,or_false,not_or]; exact ⟨q1,q2,q3,q4,q5,q6,q7⟩)] at h
   exact h
 ·have hT:¬ termOk ⟨p,bs⟩ []:=no_term _
  have hTI:termI ⟨p,bs⟩ []:=termI_nil hI1
  have hw:(if w∈onesW then wNone else wWhat)=(if w∈onesW then (if n<(Place.rules ⟨p,bs,rs⟩).length then askO p bs (termR ⟨p,bs,rs⟩ n.toNat) w else wNone) else wWhat):=by rw [if_neg hn]
  replace h:K (.str (if w∈onesW then wNone else wWhat)):=hw ▸ h
  clear hw
  rw [if_neg hn,decide_eq_false hn]
  repeat' (first|refine vz ?_|(conv=>whnf); first|with_reducible first|refine Sp.mk ?_ ?_|refine br_d (fun _=>?_) fun _=>?_|refine vM (fun _=>?_) fun _=>?_)
  ·rename_i q
   subst q
   rw [if_pos (by decide)] at h
   refine ⟨(⟨p,bs⟩,[]),?_,⟨hTI⟩,?_⟩
   ·exact wq
   dsimp only
   rw [if_neg hT]
   repeat' (first|refine vz ?_|(conv=>whnf); first|with_reducible first|refine Sp.mk ?_ ?_|refine br_d (fun _=>?_) fun _=>?_|refine vM (fun _=>?_) fun _=>?_)
   refine ⟨[],?_,⟨by decide,fun n hn=>(by cases hn)⟩,?_⟩
   ·exact wq
   dsimp only
   rw [if_pos (show ([]:List Int).length=0 from rfl)]
   repeat' (first|refine vz ?_|(conv=>whnf); first|with_reducible first|refine Sp.mk ?_ ?_|refine br_d (fun _=>?_) fun _=>?_|refine vM (fun _=>?_) fun _=>?_)
   all_goals first|exact h|(rename_i q; exact absurd q (by decide))
  ·rename_i q
   subst q
   rw [if_pos (by decide)] at h
   refine ⟨(⟨p,bs⟩,[]),?_,⟨hTI⟩,?_⟩
   ·exact wq
   dsimp only
   rw [if_neg hT]
   repeat' (first|refine vz ?_|(conv=>whnf); first|with_reducible first|refine Sp.mk ?_ ?_|refine br_d (fun _=>?_) fun _=>?_|refine vM (fun _=>?_) fun _=>?_)
   refine ⟨-1,?_,⟨by decide,by decide⟩,?_⟩
   ·exact wq
   repeat' (first|refine vz ?_|(conv=>whnf); first|with_reducible first|refine Sp.mk ?_ ?_|refine br_d (fun _=>?_) fun _=>?_|refine vM (fun _=>?_) fun _=>?_)
   all_goals first|exact h|(rename_i q; exact absurd q num_what)
  ·rename_i q
   subst q
   rw [if_pos (by decide)] at h
   refine ⟨(⟨p,bs⟩,[]),?_,⟨hTI⟩,?_⟩
   ·exact wq
   dsimp only
   rw [if_neg hT]
   repeat' (first|refine vz ?_|(conv=>whnf); first|with_reducible first|refine Sp.mk ?_ ?_|refine br_d (fun _=>?_) fun _=>?_|refine vM (fun _=>?_) fun _=>?_)
   refine ⟨-1,?_,⟨by decide,by decide⟩,?_⟩
   ·exact wq
   repeat' (first|refine vz ?_|(conv=>whnf); first|with_reducible first|refine Sp.mk ?_ ?_|refine br_d (fun _=>?_) fun _=>?_|refine vM (fun _=>?_) fun _=>?_)
   all_goals first|exact h|(rename_i q; exact absurd q num_what)
  ·rename_i q
   subst q
   rw [if_pos (by decide)] at h
   refine ⟨(⟨p,bs⟩,[]),?_,⟨hTI⟩,?_⟩
   ·exact wq
   dsimp only
   rw [if_neg hT]
   repeat' (first|refine vz ?_|(conv=>whnf); first|with_reducible first|refine Sp.mk ?_ ?_|refine br_d (fun _=>?_) fun _=>?_|refine vM (fun _=>?_) fun _=>?_)
   refine ⟨-1,?_,⟨by decide,by decide⟩,?_⟩
   ·exact wq
   repeat' (first|refine vz ?_|(conv=>whnf); first|with_reducible first|refine Sp.mk ?_ ?_|refine br_d (fun _=>?_) fun _=>?_|refine vM (fun _=>?_) fun _=>?_)
   all_goals first|exact h|(rename_i q; exact absurd q num_what)
  ·rename_i q
   subst q
   rw [if_pos (by decide)] at h
   refine Dr.mk ⟨(.rd 0 (.rd 1 (.rd 2 (.rd 3 (.rd 4 (.ef 5 (.ef 6 (.rd 7 .dn) .no) .no)))))),by decide +kernel,?_⟩
   repeat' (first|refine vz ?_|(conv=>whnf); first|with_reducible first|refine Sp.mk ?_ ?_|refine br_d (fun _=>?_) fun _=>?_|refine vM (fun _=>?_) fun _=>?_)
   refine ⟨(⟨p,bs⟩,[]),?_,⟨hTI⟩,?_⟩
   ·exact wq
   dsimp only
   rw [if_neg hT]
   repeat' (first|refine vz ?_|(conv=>whnf); first|with_reducible first|refine Sp.mk ?_ ?_|refine br_d (fun _=>?_) fun _=>?_|refine vM (fun _=>?_) fun _=>?_)
   refine ⟨(⟨p,bs⟩,[]),?_,⟨hTI⟩,?_⟩
   ·exact wq
   unfold ttext
   dsimp only
   rw [if_neg hT]
   repeat' (first|refine vz ?_|(conv=>whnf); first|with_reducible first|refine Sp.mk ?_ ?_|refine br_d (fun _=>?_) fun _=>?_|refine vM (fun _=>?_) fun _=>?_)
   all_goals first|exact h|(rename_i q; exact absurd q (by decide))
  ·rename_i q
   subst q
   rw [if_pos (by decide)] at h
   refine ⟨(⟨p,bs⟩,[]),?_,⟨hTI⟩,?_⟩
   ·exact wq
   dsimp only
   rw [decide_eq_false hT,Bool.false_and]
   repeat' (first|refine vz ?_|(conv=>whnf); first|with_reducible first|refine Sp.mk ?_ ?_|refine br_d (fun _=>?_) fun _=>?_|refine vM (fun _=>?_) fun _=>?_)
   refine ⟨false,?_,⟨trivial⟩,?_⟩
   ·exact wq
   repeat' (first|refine vz ?_|(conv=>whnf); first|with_reducible first|refine Sp.mk ?_ ?_|refine br_d (fun _=>?_) fun _=>?_|refine vM (fun _=>?_) fun _=>?_)
   all_goals first|exact h|(rename_i q; exact absurd q (by decide))
  ·rename_i q
   subst q
   rw [if_pos (by decide)] at h
   refine ⟨(⟨p,bs⟩,[]),?_,⟨hTI⟩,?_⟩
   ·exact wq
   dsimp only
   rw [decide_eq_false hT,Bool.false_and]
   repeat' (first|refine vz ?_|(conv=>whnf); first|with_reducible first|refine Sp.mk ?_ ?_|refine br_d (fun _=>?_) fun _=>?_|refine vM (fun _=>?_) fun _=>?_)
   refine ⟨false,?_,⟨trivial⟩,?_⟩
   ·exact wq
   repeat' (first|refine vz ?_|(conv=>whnf); first|with_reducible first|refine Sp.mk ?_ ?_|refine br_d (fun _=>?_) fun _=>?_|refine vM (fun _=>?_) fun _=>?_)
   all_goals first|exact h|(rename_i q; exact absurd q (by decide))
  ·rename_i q1 q2 q3 q4 q5 q6 q7 q8
   rw [if_neg (by unfold onesW; simp only [List.mem_cons,List.not_mem_nil,or_false,not_or]; exact ⟨q1,q2,q3,q4,q5,q6,q7⟩)] at h
   exact h
  ·rename_i q1 q2 q3 q4 q5 q6 q7 q8
   exact absurd rfl q8
end Go.Proofs.YtgdbhjmpkkbnnaaGreatDoor.Vc
end
