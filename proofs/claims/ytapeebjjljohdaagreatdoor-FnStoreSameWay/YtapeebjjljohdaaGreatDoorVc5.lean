/- Part QF: questions about a rule, by the implementation. -/
import Derived.Lib.SplitLaws
import Derived.Lib.AtoiAll
import Derived.Lib.SmallJoins
import Derived.Test.YtapeebjjljohdaaGreatDoorVc4
section
namespace Go.Proofs.YtapeebjjljohdaaGreatDoor.Vc
open Go.Proofs
set_option maxRecDepth 10000
set_option maxHeartbeats 4000000
theorem xor_need:∀ p,p<7→∀ k,k<p→bitop .i64 .xor ((2 ^ p-1:Nat):Int) (1*2 ^ min ((k:Nat):Int).toNat IntKind.i64.bits)=((2 ^ p-1:Nat):Int)-((2 ^ k:Nat):Int)∧2 ^ k≤2 ^ p-1:=by decide +kernel
theorem xor_lack:∀ p,p<7→∀ c,c<2 ^ p→bitop .i64 .xor ((2 ^ p-1:Nat):Int) ((c:Nat):Int)=((2 ^ p-1:Nat):Int)-((c:Nat):Int):=by decide +kernel
theorem xor_who {p:Int} (pp:people p) {k:Nat} (hk:(k:Int)<p):bitop .i64 .xor (full p) (1*2 ^ min (k:Int).toNat IntKind.i64.bits)=full p-((2 ^ k:Nat):Int)∧0≤full p-((2 ^ k:Nat):Int)∧full p-((2 ^ k:Nat):Int)<64:=by
 have h6:=pp.2
 have:=xor_need p.toNat (by omega) k (by omega)
 have pl:=pw_le pp
 have e:=full_nat pp
 have h2:=Nat.two_pow_pos k
 rw [← e] at this
 refine ⟨this.1,by omega,?_⟩
 unfold full at e ⊢
 omega
theorem xor_all {p:Int} (pp:people p) {c:Nat} (hc:(c:Int)<pw p):bitop .i64 .xor (full p) (c:Int)=full p-(c:Int)∧0≤full p-(c:Int)∧full p-(c:Int)<64:=by
 have h6:=pp.2
 have pn:=pw_nat pp
 have:=xor_lack p.toNat (by omega) c (by omega)
 have pl:=pw_le pp
 have e:=full_nat pp
 rw [← e] at this
 refine ⟨this,?_,?_⟩ <;> unfold full <;> omega
def C346:List AV→(AV→Prop)→Prop:=con (X:=Int) (fun p=>[.int .i64 p]) people fun p K=>K (.int .i64 (full p))
theorem F346:FF 190 C346:=by
 refine fitE [] (by simp) Tryz.f190 ⟨rfl,by decide +kernel,by decide +kernel⟩ (fun _ _ _ hk h=>hk _ h) ?_
 rintro p K pp h
 refine ⟨Nat.le_of_ble_eq_true rfl,?_⟩
 have pl:=pw_le pp
 repeat' (first|refine vz ?_|(conv=>whnf); first|with_reducible refine Wr.ex (wsh pp) ?_|with_reducible refine Wr.ex (wi64 (by rw [pw_sh pp]; omega) (by rw [pw_sh pp]; omega)) ?_|with_reducible first|refine Sp.mk ?_ ?_|refine br_d (fun _=>?_) fun _=>?_|refine vM (fun _=>?_) fun _=>?_)
 rw [pw_sh pp]
 exact h
def C342:List AV→(AV→Prop)→Prop:=con (X:=House × List Mark) (fun x=>[enH x.1,slM x.2]) (fun x=>termI x.1 x.2∧termOk x.1 x.2) fun x K=>K (.int .i64 (sayl x.1.bs x.2 (pw x.1.p).toNat).length)
theorem F342:FF 160 C342:=by
 refine fitE [(153,C38),(181,C39)] (by simp only [List.mem_cons,List.not_mem_nil,or_false]; rintro _ (rfl|rfl) <;> first|exact F38|exact F39) Tryz.f160 ⟨rfl,by decide +kernel,by decide +kernel⟩ (fun _ _ _ hk h=>hk _ h) ?_
 rintro ⟨⟨p,bs⟩,t⟩ K ⟨hI,hO⟩ h
 refine ⟨Nat.le_of_ble_eq_true rfl,?_⟩
 dsimp only [enH] at h hI hO ⊢
 have pp:people p:=hO.1.1
 have hp:=pw_le pp
 have hp1:=pp.1
 have hp6:=pp.2
 repeat' (first|refine vz ?_|(conv=>whnf); first|with_reducible first|refine Sp.mk ?_ ?_|refine br_d (fun _=>?_) fun _=>?_|refine vM (fun _=>?_) fun _=>?_)
 refine ⟨(⟨p,bs⟩,t),?_,⟨hI⟩,?_⟩
 ·exact wq
 repeat' (first|refine vz ?_|(conv=>whnf); first|with_reducible refine Wr.ex (wsh pp) ?_|with_reducible first|refine Sp.mk ?_ ?_|refine br_d (fun _=>?_) fun _=>?_|refine vM (fun _=>?_) fun _=>?_)
 refine Lp.mk ⟨Nat,fun i=>[(1,slM t),(2,.ptr 0 0),(5,.int .i64 (sayl bs t i).length),(13,.int .i64 (pw p)),(14,.int .i64 i)],
  fun _=>[.box [.int .i64 p,slI bs]],fun i=>i≤(pw p).toNat,fun i=>(pw p).toNat-i,⟨0,Nat.zero_le _,⟨⟨[some 0],[],rfl,rfl,?_,?_⟩⟩⟩,?_⟩
 ·repeat' ((conv=>whnf); first|with_reducible exact True.intro|exact vW|with_reducible refine And.intro ?_ ?_)
  all_goals exact Chk.mk (pw_sh pp).symm
 ·exact wq
 intro i i1
 dsimp only
 have hll:(sayl bs t i).length≤i:=cl_le _ i
 repeat' (first|refine vz ?_|(conv=>whnf); first|with_reducible first|refine Sp.mk ?_ ?_|refine br_d (fun _=>?_) fun _=>?_|refine vM (fun _=>?_) fun _=>?_)
 ·rename_i hi
  refine ⟨⟨p,bs,t,i⟩,?_,⟨sayOk_of hO _ (by omega) (by omega),hO.2.1⟩,?_⟩
  ·exact wq
  dsimp only
  repeat' (first|refine vz ?_|(conv=>whnf); first|with_reducible first|refine Sp.mk ?_ ?_|refine br_d (fun _=>?_) fun _=>?_|refine vM (fun _=>?_) fun _=>?_)
  ·rename_i hv
   have e:((sayl bs t (i+1)).length:Int)=(sayl bs t i).length+1:=by unfold sayl; rw [cl_t hv]; simp
   refine ⟨i+1,by show i+1≤(pw p).toNat; omega,by show (pw p).toNat-(i+1)<(pw p).toNat-i; omega,⟨⟨[some 0],[],rfl,rfl,?_,?_⟩⟩⟩
   ·exact wq
   ·exact wq
  ·rename_i hv
   have e:((sayl bs t (i+1)).length:Int)=(sayl bs t i).length:=by unfold sayl; rw [cl_f hv]
   refine ⟨i+1,by show i+1≤(pw p).toNat; omega,by show (pw p).toNat-(i+1)<(pw p).toNat-i; omega,⟨⟨[some 0],[],rfl,rfl,?_,?_⟩⟩⟩
   ·exact wq
   ·exact wq
 ·rw [show (pw p).toNat=i by omega] at h
  exact h
def C343:List AV→(AV→Prop)→Prop:=con (X:=House × List Mark) (fun x=>[enH x.1,slM x.2]) (fun x=>termI x.1 x.2∧termOk x.1 x.2) fun x K=>K (.int .i64 (needF x.1.p x.1.bs x.2 x.1.p.toNat))
theorem F343:FF 161 C343:=by
 refine fitE [(153,C38),(181,C39),(190,C346)] (by simp only [List.mem_cons,List.not_mem_nil,or_false]; rintro _ (rfl|rfl|rfl) <;> first|exact F38|exact F39|exact F346) Tryz.f161 ⟨rfl,by decide +kernel,by decide +kernel⟩ (fun _ _ _ hk h=>hk _ h) ?_
 rintro ⟨⟨p,bs⟩,t⟩ K ⟨hI,hO⟩ h
 refine ⟨Nat.le_of_ble_eq_true rfl,?_⟩
 dsimp only [enH] at h hI hO ⊢
 have pp:people p:=hO.1.1
 have hp:=pw_le pp
 have hp1:=pp.1
 have hp6:=pp.2
 repeat' (first|refine vz ?_|(conv=>whnf); first|with_reducible first|refine Sp.mk ?_ ?_|refine br_d (fun _=>?_) fun _=>?_|refine vM (fun _=>?_) fun _=>?_)
 refine ⟨(⟨p,bs⟩,t),?_,⟨hI⟩,?_⟩
 ·exact wq
 repeat' (first|refine vz ?_|(conv=>whnf); first|with_reducible refine Wr.ex (wsh pp) ?_|with_reducible first|refine Sp.mk ?_ ?_|refine br_d (fun _=>?_) fun _=>?_|refine vM (fun _=>?_) fun _=>?_)
 refine Lp.mk ⟨Nat,fun i=>[(1,slM t),(2,.ptr 0 0),(5,.int .i64 (needF p bs t i)),(12,.int .i64 p),(13,.int .i64 i)],
  fun _=>[.box [.int .i64 p,slI bs]],fun i=>i≤p.toNat,fun i=>p.toNat-i,⟨0,Nat.zero_le _,⟨⟨[some 0],[],rfl,rfl,?_,?_⟩⟩⟩,?_⟩
 ·exact wq
 ·exact wq
 intro i i1
 dsimp only
 have hl:=need_lt (p:=p) (bs:=bs) (t:=t) i (by omega)
 repeat' (first|refine vz ?_|(conv=>whnf); first|with_reducible first|refine Sp.mk ?_ ?_|refine br_d (fun _=>?_) fun _=>?_|refine vM (fun _=>?_) fun _=>?_)
 ·rename_i hi
  have hx:=xor_who pp (k:=i) (by omega)
  refine Dr.mk ⟨(.rd 0 (.rd 1 (.rd 2 (.rd 3 (.rd 5 (.rd 6 (.ef 4 (.rd 7 (.ef 8 (.rd 9 .dn) .no)) .no))))))),by decide +kernel,?_⟩
  repeat' (first|refine vz ?_|(conv=>whnf); first|with_reducible refine Wr.ex (wshw (by omega) (by omega)) ?_|with_reducible first|refine Sp.mk ?_ ?_|refine br_d (fun _=>?_) fun _=>?_|refine vM (fun _=>?_) fun _=>?_)
  refine ⟨p,?_,⟨pp⟩,?_⟩
  ·exact wq
  repeat' (first|refine vz ?_|(conv=>whnf); first|with_reducible refine Wr.ex (wshw (by omega) (by omega)) ?_|with_reducible first|refine Sp.mk ?_ ?_|refine br_d (fun _=>?_) fun _=>?_|refine vM (fun _=>?_) fun _=>?_)
  refine ⟨⟨p,bs,t,full p-((2 ^ i:Nat):Int)⟩,?_,⟨sayOk_of hO _ hx.2.1 hx.2.2,hO.2.1⟩,?_⟩
  ·repeat' ((conv=>whnf); first|with_reducible exact True.intro|exact vW|with_reducible refine And.intro ?_ ?_)
   all_goals exact Chk.mk hx.1
  dsimp only
  repeat' (first|refine vz ?_|(conv=>whnf); first|with_reducible refine Wr.ex (wshw (by omega) (by omega)) ?_|with_reducible first|refine Sp.mk ?_ ?_|refine br_d (fun _=>?_) fun _=>?_|refine vM (fun _=>?_) fun _=>?_)
  ·rename_i hv
   refine ⟨i+1,by show i+1≤p.toNat; omega,by show p.toNat-(i+1)<p.toNat-i; omega,⟨⟨[some 0],[],rfl,rfl,?_,?_⟩⟩⟩
   ·repeat' ((conv=>whnf); first|with_reducible exact True.intro|exact vW|with_reducible refine And.intro ?_ ?_)
    all_goals exact Chk.mk (by rw [needF,if_pos hv])
   ·exact wq
  ·rename_i hv
   refine ⟨i+1,by show i+1≤p.toNat; omega,by show p.toNat-(i+1)<p.toNat-i; omega,⟨⟨[some 0],[],rfl,rfl,?_,?_⟩⟩⟩
   ·repeat' ((conv=>whnf); first|with_reducible exact True.intro|exact vW|with_reducible refine And.intro ?_ ?_)
    all_goals exact Chk.mk (by rw [needF,if_neg (by rw [hv]; exact Bool.false_ne_true)]; rfl)
   ·exact wq
 ·rw [show p.toNat=i by omega] at h
  exact h
theorem decB_succ {p:Int} {bs:List Int} {t:List Mark} {n:Nat}:decB p bs t (n+1)=(decB p bs t n && !(says bs n t == says bs (full p-n) t)):=rall_succ n
theorem claB_succ {p:Int} {bs:List Int} {t:List Mark} {n:Nat}:claB p bs t (n+1)=(claB p bs t n || (says bs n t && says bs (full p-n) t)):=rany_succ n
theorem decB_le {p:Int} {bs:List Int} {t:List Mark} {n m:Nat} (h:n≤m) (e:decB p bs t n=false):decB p bs t m=false:=by
 induction h with
 |refl=>exact e
 |step _ ih=>rw [decB_succ,ih,Bool.false_and]
theorem claB_le {p:Int} {bs:List Int} {t:List Mark} {n m:Nat} (h:n≤m) (e:claB p bs t n=true):claB p bs t m=true:=by
 induction h with
 |refl=>exact e
 |step _ ih=>rw [claB_succ,ih,Bool.true_or]
def C344:List AV→(AV→Prop)→Prop:=con (X:=House × List Mark) (fun x=>[enH x.1,slM x.2]) (fun x=>termI x.1 x.2∧termOk x.1 x.2) fun x K=>K (.bool (decB x.1.p x.1.bs x.2 (pw x.1.p).toNat))
theorem F344:FF 164 C344:=by
 refine fitE [(153,C38),(181,C39),(190,C346)] (by simp only [List.mem_cons,List.not_mem_nil,or_false]; rintro _ (rfl|rfl|rfl) <;> first|exact F38|exact F39|exact F346) Tryz.f164 ⟨rfl,by decide +kernel,by decide +kernel⟩ (fun _ _ _ hk h=>hk _ h) ?_
 rintro ⟨⟨p,bs⟩,t⟩ K ⟨hI,hO⟩ h
 refine ⟨Nat.le_of_ble_eq_true rfl,?_⟩
 dsimp only [enH] at h hI hO ⊢
 have pp:people p:=hO.1.1
 have hp:=pw_le pp
 have hp1:=pp.1
 have hp6:=pp.2
 repeat' (first|refine vz ?_|(conv=>whnf); first|with_reducible first|refine Sp.mk ?_ ?_|refine br_d (fun _=>?_) fun _=>?_|refine vM (fun _=>?_) fun _=>?_)
 refine ⟨(⟨p,bs⟩,t),?_,⟨hI⟩,?_⟩
 ·exact wq
 repeat' (first|refine vz ?_|(conv=>whnf); first|with_reducible refine Wr.ex (wsh pp) ?_|with_reducible first|refine Sp.mk ?_ ?_|refine br_d (fun _=>?_) fun _=>?_|refine vM (fun _=>?_) fun _=>?_)
 refine Lp.mk ⟨Nat,fun i=>[(1,slM t),(2,.ptr 0 0),(12,.int .i64 (pw p)),(13,.int .i64 i)],
  fun _=>[.box [.int .i64 p,slI bs]],fun i=>i≤(pw p).toNat∧decB p bs t i=true,fun i=>(pw p).toNat-i,⟨0,⟨Nat.zero_le _,rfl⟩,⟨⟨[some 0],[],rfl,rfl,?_,?_⟩⟩⟩,?_⟩
 ·repeat' ((conv=>whnf); first|with_reducible exact True.intro|exact vW|with_reducible refine And.intro ?_ ?_)
  all_goals exact Chk.mk (pw_sh pp).symm
 ·exact wq
 rintro i ⟨i1,i2⟩
 dsimp only
 repeat' (first|refine vz ?_|(conv=>whnf); first|with_reducible first|refine Sp.mk ?_ ?_|refine br_d (fun _=>?_) fun _=>?_|refine vM (fun _=>?_) fun _=>?_)
 ·rename_i hi
  have hx:=xor_all pp (c:=i) (by omega)
  have ds:=decB_succ (p:=p) (bs:=bs) (t:=t) (n:=i)
  rw [i2,Bool.true_and] at ds
  refine Dr.mk ⟨(.rd 0 (.rd 1 (.rd 2 (.rd 4 (.rd 5 (.rd 6 (.rd 7 (.rd 9 (.ef 3 (.ef 8 (.rd 10 (.ef 11 (.rd 12 .dn) .no)) .no) .no))))))))),by decide +kernel,?_⟩
  repeat' (first|refine vz ?_|(conv=>whnf); first|with_reducible first|refine Sp.mk ?_ ?_|refine br_d (fun _=>?_) fun _=>?_|refine vM (fun _=>?_) fun _=>?_)
  refine ⟨⟨p,bs,t,i⟩,?_,⟨sayOk_of hO _ (by omega) (by omega),hO.2.1⟩,?_⟩
  ·exact wq
  dsimp only
  repeat' (first|refine vz ?_|(conv=>whnf); first|with_reducible first|refine Sp.mk ?_ ?_|refine br_d (fun _=>?_) fun _=>?_|refine vM (fun _=>?_) fun _=>?_)
  refine ⟨p,?_,⟨pp⟩,?_⟩
  ·exact wq
  repeat' (first|refine vz ?_|(conv=>whnf); first|with_reducible first|refine Sp.mk ?_ ?_|refine br_d (fun _=>?_) fun _=>?_|refine vM (fun _=>?_) fun _=>?_)
  refine ⟨⟨p,bs,t,full p-i⟩,?_,⟨sayOk_of hO _ hx.2.1 hx.2.2,hO.2.1⟩,?_⟩
  ·repeat' ((conv=>whnf); first|with_reducible exact True.intro|exact vW|with_reducible refine And.intro ?_ ?_)
   all_goals exact Chk.mk hx.1
  dsimp only
  repeat' (first|refine vz ?_|(conv=>whnf); first|with_reducible first|refine Sp.mk ?_ ?_|refine br_d (fun _=>?_) fun _=>?_|refine vM (fun _=>?_) fun _=>?_)
  ·rename_i hv
   have e:decB p bs t (i+1)=false:=by rw [ds,hv]; simp
   rw [decB_le (by omega) e] at h
   exact h
  ·rename_i hv
   have e:decB p bs t (i+1)=true:=by rw [ds]; simpa using hv
   refine ⟨i+1,⟨by show i+1≤(pw p).toNat; omega,e⟩,by show (pw p).toNat-(i+1)<(pw p).toNat-i; omega,⟨⟨[some 0],[],rfl,rfl,?_,?_⟩⟩⟩
   ·exact wq
   ·exact wq
 ·rw [show (pw p).toNat=i by omega,i2] at h
  exact h
def C345:List AV→(AV→Prop)→Prop:=con (X:=House × List Mark) (fun x=>[enH x.1,slM x.2]) (fun x=>termI x.1 x.2∧termOk x.1 x.2) fun x K=>K (.bool (claB x.1.p x.1.bs x.2 (pw x.1.p).toNat))
theorem F345:FF 165 C345:=by
 refine fitE [(153,C38),(181,C39),(190,C346)] (by simp only [List.mem_cons,List.not_mem_nil,or_false]; rintro _ (rfl|rfl|rfl) <;> first|exact F38|exact F39|exact F346) Tryz.f165 ⟨rfl,by decide +kernel,by decide +kernel⟩ (fun _ _ _ hk h=>hk _ h) ?_
 rintro ⟨⟨p,bs⟩,t⟩ K ⟨hI,hO⟩ h
 refine ⟨Nat.le_of_ble_eq_true rfl,?_⟩
 dsimp only [enH] at h hI hO ⊢
 have pp:people p:=hO.1.1
 have hp:=pw_le pp
 have hp1:=pp.1
 have hp6:=pp.2
 repeat' (first|refine vz ?_|(conv=>whnf); first|with_reducible first|refine Sp.mk ?_ ?_|refine br_d (fun _=>?_) fun _=>?_|refine vM (fun _=>?_) fun _=>?_)
 refine ⟨(⟨p,bs⟩,t),?_,⟨hI⟩,?_⟩
 ·exact wq
 repeat' (first|refine vz ?_|(conv=>whnf); first|with_reducible refine Wr.ex (wsh pp) ?_|with_reducible first|refine Sp.mk ?_ ?_|refine br_d (fun _=>?_) fun _=>?_|refine vM (fun _=>?_) fun _=>?_)
 refine Lp.mk ⟨Nat,fun i=>[(1,slM t),(2,.ptr 0 0),(12,.int .i64 (pw p)),(13,.int .i64 i)],
  fun _=>[.box [.int .i64 p,slI bs]],fun i=>i≤(pw p).toNat∧claB p bs t i=false,fun i=>(pw p).toNat-i,⟨0,⟨Nat.zero_le _,rfl⟩,⟨⟨[some 0],[],rfl,rfl,?_,?_⟩⟩⟩,?_⟩
 ·repeat' ((conv=>whnf); first|with_reducible exact True.intro|exact vW|with_reducible refine And.intro ?_ ?_)
  all_goals exact Chk.mk (pw_sh pp).symm
 ·exact wq
 rintro i ⟨i1,i2⟩
 dsimp only
 repeat' (first|refine vz ?_|(conv=>whnf); first|with_reducible first|refine Sp.mk ?_ ?_|refine br_d (fun _=>?_) fun _=>?_|refine vM (fun _=>?_) fun _=>?_)
 ·rename_i hi
  have hx:=xor_all pp (c:=i) (by omega)
  have ds:=claB_succ (p:=p) (bs:=bs) (t:=t) (n:=i)
  rw [i2,Bool.false_or] at ds
  refine Dr.mk ⟨(.rd 0 (.rd 1 (.rd 2 (.ef 3 (.rd 4 (.rd 5 (.rd 6 (.rd 7 (.rd 8 (.rd 10 (.ef 9 (.rd 11 (.ef 12 (.rd 13 .dn) .no)) .no))))))) .no)))),by decide +kernel,?_⟩
  repeat' (first|refine vz ?_|(conv=>whnf); first|with_reducible first|refine Sp.mk ?_ ?_|refine br_d (fun _=>?_) fun _=>?_|refine vM (fun _=>?_) fun _=>?_)
  refine ⟨⟨p,bs,t,i⟩,?_,⟨sayOk_of hO _ (by omega) (by omega),hO.2.1⟩,?_⟩
  ·exact wq
  dsimp only
  repeat' (first|refine vz ?_|(conv=>whnf); first|with_reducible first|refine Sp.mk ?_ ?_|refine br_d (fun _=>?_) fun _=>?_|refine vM (fun _=>?_) fun _=>?_)
  ·rename_i hv
   rw [hv,Bool.true_and] at ds
   refine ⟨p,?_,⟨pp⟩,?_⟩
   ·exact wq
   repeat' (first|refine vz ?_|(conv=>whnf); first|with_reducible first|refine Sp.mk ?_ ?_|refine br_d (fun _=>?_) fun _=>?_|refine vM (fun _=>?_) fun _=>?_)
   refine ⟨⟨p,bs,t,full p-i⟩,?_,⟨sayOk_of hO _ hx.2.1 hx.2.2,hO.2.1⟩,?_⟩
   ·repeat' ((conv=>whnf); first|with_reducible exact True.intro|exact vW|with_reducible refine And.intro ?_ ?_)
    all_goals exact Chk.mk hx.1
   dsimp only
   repeat' (first|refine vz ?_|(conv=>whnf); first|with_reducible first|refine Sp.mk ?_ ?_|refine br_d (fun _=>?_) fun _=>?_|refine vM (fun _=>?_) fun _=>?_)
   ·rename_i hv2
    rw [hv2] at ds
    rw [claB_le (by omega) ds] at h
    exact h
   ·rename_i hv2
    rw [hv2] at ds
    refine ⟨i+1,⟨by show i+1≤(pw p).toNat; omega,ds⟩,by show (pw p).toNat-(i+1)<(pw p).toNat-i; omega,⟨⟨[some 0],[],rfl,rfl,?_,?_⟩⟩⟩
    ·exact wq
    ·exact wq
  ·rename_i hv
   rw [hv,Bool.false_and] at ds
   refine ⟨i+1,⟨by show i+1≤(pw p).toNat; omega,ds⟩,by show (pw p).toNat-(i+1)<(pw p).toNat-i; omega,⟨⟨[some 0],[],rfl,rfl,?_,?_⟩⟩⟩
   ·exact wq
   ·exact wq
 ·rw [show (pw p).toNat=i by omega,i2] at h
  exact h
end Go.Proofs.YtapeebjjljohdaaGreatDoor.Vc
end
section
/- Part DB: the texts of deeds. -/
namespace Go.Proofs.YtapeebjjljohdaaGreatDoor.Vc
open Go.Proofs
set_option maxRecDepth 20000
structure Dd where
 kind:Int
 a:Int
 b:Int
 words:ByteArray
 deriving Inhabited,DecidableEq
def encD (d:Dd):List AV:=[.int .i64 d.kind,.int .i64 d.a,.int .i64 d.b,.str d.words]
abbrev ded (d:Dd):AV:=.agg (encD d)
def tx (l:List UInt8):ByteArray:=⟨l.toArray⟩
def plainW (s:ByteArray):Bool:=decide (¬ s=⟨#[]⟩) && !spc s
def deedT (d:Dd):ByteArray :=
 if d.a<0∨99<d.a∨d.b<0∨99<d.b then ⟨#[]⟩
 else if d.kind=0∧d.b=0∧d.words=⟨#[]⟩ then ⟨#[98,111,100,121,32]⟩ ++ num d.a
 else if d.kind=1∧d.a=0∧d.b=0∧plainW d.words=true then ⟨#[114,117,108,101,32]⟩ ++ d.words
 else if d.kind=2∧plainW d.words=true then ⟨#[97,109,101,110,100,32]⟩ ++ num d.a ++ ⟨#[32]⟩ ++ num d.b ++ ⟨#[32]⟩ ++ d.words
 else if d.kind=3∧d.words=⟨#[]⟩ then ⟨#[100,114,111,112,32]⟩ ++ num d.a ++ ⟨#[32]⟩ ++ num d.b
 else if d.kind=4∧d.a=0∧d.b=0∧d.words=⟨#[]⟩ then ⟨#[98,97,99,107]⟩
 else ⟨#[]⟩
theorem sz1:(⟨#[98,111,100,121,32]⟩:ByteArray).size=5:=rfl
theorem sz2:(⟨#[114,117,108,101,32]⟩:ByteArray).size=5:=rfl
theorem sz3:(⟨#[97,109,101,110,100,32]⟩:ByteArray).size=6:=rfl
theorem sz4:(⟨#[100,114,111,112,32]⟩:ByteArray).size=5:=rfl
theorem sz5:(⟨#[32]⟩:ByteArray).size=1:=rfl
def C103:List AV→(AV→Prop)→Prop:=con (X:=Dd) (fun d=>[ded d]) (fun d=>d.words.size≤1048576) fun d K=>K (.str (deedT d))
set_option maxHeartbeats 4000000 in
theorem F103:FF 55 C103:=by
 refine fitE [(94,C101),(96,C102)] (by simp only [List.mem_cons,List.not_mem_nil,or_false]; rintro _ (rfl|rfl) <;> first|exact F101|exact F102) Tryz.f55 ⟨rfl,by decide +kernel,by decide +kernel⟩ (fun _ _ _ hk h=>hk _ h) ?_
 rintro ⟨k,a,b,w⟩ K h1 h
 refine ⟨Nat.le_of_ble_eq_true rfl,?_⟩
 dsimp only [ded,encD] at h1 h ⊢
 repeat' (first|refine vz ?_|(conv=>whnf); first|with_reducible first|refine Sp.mk ?_ ?_|refine br_d (fun _=>?_) fun _=>?_|refine vM (fun _=>?_) fun _=>?_)
 all_goals try ((unfold deedT plainW at h; repeat' (split at h)) <;> first|exact h|(exfalso; simp_all; done)|(exfalso; simp_all; omega))
 ·have na':=num_size (n:=a) (by omega) (by omega)
  refine ⟨a,?_,⟨by omega,by omega⟩,?_⟩
  ·exact wq
  repeat' ((conv=>whnf); first|refine ⟨Chk.mk (by have z1:=sz1; have z2:=sz2; have z3:=sz3; have z4:=sz4; have z5:=sz5; (repeat rw [ByteArray.size_append]); omega),?_⟩|refine vA ?_|with_reducible first|refine v8 ?_|refine Sp.mk ?_ ?_|refine vS ?_|refine vR ?_|refine vB ?_|refine br_nt ?_|refine br_tt ?_|refine br_ff ?_|refine vP ?_|refine vQ ?_|refine vT ?_|refine vF ?_|refine br_and ?_|refine br_or ?_|refine br_d (fun _=>?_) fun _=>?_|refine vM (fun _=>?_) fun _=>?_)
  ((unfold deedT plainW at h; repeat' (split at h)) <;> first|exact h|(exfalso; simp_all; done)|(exfalso; simp_all; omega))
 ·have na':=num_size (n:=a) (by omega) (by omega)
  have nb':=num_size (n:=b) (by omega) (by omega)
  refine Dr.mk ⟨(.rd 0 (.rd 1 (.rd 5 (.rd 6 (.ef 2 (.rd 3 (.rd 4 (.ef 7 (.rd 8 (.rd 9 .dn)) .no))) .no))))),by decide +kernel,?_⟩
  repeat' ((conv=>whnf); first|refine ⟨Chk.mk (by have z1:=sz1; have z2:=sz2; have z3:=sz3; have z4:=sz4; have z5:=sz5; (repeat rw [ByteArray.size_append]); omega),?_⟩|refine vA ?_|with_reducible first|refine v8 ?_|refine Sp.mk ?_ ?_|refine vS ?_|refine vR ?_|refine vB ?_|refine br_nt ?_|refine br_tt ?_|refine br_ff ?_|refine vP ?_|refine vQ ?_|refine vT ?_|refine vF ?_|refine br_and ?_|refine br_or ?_|refine br_d (fun _=>?_) fun _=>?_|refine vM (fun _=>?_) fun _=>?_)
  refine ⟨a,?_,⟨by omega,by omega⟩,?_⟩
  ·exact wq
  repeat' ((conv=>whnf); first|refine ⟨Chk.mk (by have z1:=sz1; have z2:=sz2; have z3:=sz3; have z4:=sz4; have z5:=sz5; (repeat rw [ByteArray.size_append]); omega),?_⟩|refine vA ?_|with_reducible first|refine v8 ?_|refine Sp.mk ?_ ?_|refine vS ?_|refine vR ?_|refine vB ?_|refine br_nt ?_|refine br_tt ?_|refine br_ff ?_|refine vP ?_|refine vQ ?_|refine vT ?_|refine vF ?_|refine br_and ?_|refine br_or ?_|refine br_d (fun _=>?_) fun _=>?_|refine vM (fun _=>?_) fun _=>?_)
  refine ⟨b,?_,⟨by omega,by omega⟩,?_⟩
  ·exact wq
  repeat' ((conv=>whnf); first|refine ⟨Chk.mk (by have z1:=sz1; have z2:=sz2; have z3:=sz3; have z4:=sz4; have z5:=sz5; (repeat rw [ByteArray.size_append]); omega),?_⟩|refine vA ?_|with_reducible first|refine v8 ?_|refine Sp.mk ?_ ?_|refine vS ?_|refine vR ?_|refine vB ?_|refine br_nt ?_|refine br_tt ?_|refine br_ff ?_|refine vP ?_|refine vQ ?_|refine vT ?_|refine vF ?_|refine br_and ?_|refine br_or ?_|refine br_d (fun _=>?_) fun _=>?_|refine vM (fun _=>?_) fun _=>?_)
  ((unfold deedT plainW at h; repeat' (split at h)) <;> first|exact h|(exfalso; simp_all; done)|(exfalso; simp_all; omega))
 ·refine ⟨w,?_,⟨by omega⟩,?_⟩
  ·exact wq
  cases hs:spc w
  ·repeat' (first|refine vz ?_|(conv=>whnf); first|with_reducible first|refine Sp.mk ?_ ?_|refine br_d (fun _=>?_) fun _=>?_|refine vM (fun _=>?_) fun _=>?_)
   all_goals try ((unfold deedT plainW at h; repeat' (split at h)) <;> first|exact h|(exfalso; simp_all; done)|(exfalso; simp_all; omega))
   ·repeat' ((conv=>whnf); first|refine ⟨Chk.mk (by have z1:=sz1; have z2:=sz2; have z3:=sz3; have z4:=sz4; have z5:=sz5; (repeat rw [ByteArray.size_append]); omega),?_⟩|refine vA ?_|with_reducible first|refine v8 ?_|refine Sp.mk ?_ ?_|refine vS ?_|refine vR ?_|refine vB ?_|refine br_nt ?_|refine br_tt ?_|refine br_ff ?_|refine vP ?_|refine vQ ?_|refine vT ?_|refine vF ?_|refine br_and ?_|refine br_or ?_|refine br_d (fun _=>?_) fun _=>?_|refine vM (fun _=>?_) fun _=>?_)
    ((unfold deedT plainW at h; repeat' (split at h)) <;> first|exact h|(exfalso; simp_all; done)|(exfalso; simp_all; omega))
   ·have na':=num_size (n:=a) (by omega) (by omega)
    have nb':=num_size (n:=b) (by omega) (by omega)
    refine Dr.mk ⟨(.rd 0 (.rd 1 (.rd 5 (.rd 6 (.rd 10 (.rd 11 (.ef 2 (.rd 3 (.rd 4 (.ef 7 (.rd 8 (.rd 9 (.rd 12 (.rd 13 .dn)))) .no))) .no))))))),by decide +kernel,?_⟩
    repeat' ((conv=>whnf); first|refine ⟨Chk.mk (by have z1:=sz1; have z2:=sz2; have z3:=sz3; have z4:=sz4; have z5:=sz5; (repeat rw [ByteArray.size_append]); omega),?_⟩|refine vA ?_|with_reducible first|refine v8 ?_|refine Sp.mk ?_ ?_|refine vS ?_|refine vR ?_|refine vB ?_|refine br_nt ?_|refine br_tt ?_|refine br_ff ?_|refine vP ?_|refine vQ ?_|refine vT ?_|refine vF ?_|refine br_and ?_|refine br_or ?_|refine br_d (fun _=>?_) fun _=>?_|refine vM (fun _=>?_) fun _=>?_)
    refine ⟨a,?_,⟨by omega,by omega⟩,?_⟩
    ·exact wq
    repeat' ((conv=>whnf); first|refine ⟨Chk.mk (by have z1:=sz1; have z2:=sz2; have z3:=sz3; have z4:=sz4; have z5:=sz5; (repeat rw [ByteArray.size_append]); omega),?_⟩|refine vA ?_|with_reducible first|refine v8 ?_|refine Sp.mk ?_ ?_|refine vS ?_|refine vR ?_|refine vB ?_|refine br_nt ?_|refine br_tt ?_|refine br_ff ?_|refine vP ?_|refine vQ ?_|refine vT ?_|refine vF ?_|refine br_and ?_|refine br_or ?_|refine br_d (fun _=>?_) fun _=>?_|refine vM (fun _=>?_) fun _=>?_)
    refine ⟨b,?_,⟨by omega,by omega⟩,?_⟩
    ·exact wq
    repeat' ((conv=>whnf); first|refine ⟨Chk.mk (by have z1:=sz1; have z2:=sz2; have z3:=sz3; have z4:=sz4; have z5:=sz5; (repeat rw [ByteArray.size_append]); omega),?_⟩|refine vA ?_|with_reducible first|refine v8 ?_|refine Sp.mk ?_ ?_|refine vS ?_|refine vR ?_|refine vB ?_|refine br_nt ?_|refine br_tt ?_|refine br_ff ?_|refine vP ?_|refine vQ ?_|refine vT ?_|refine vF ?_|refine br_and ?_|refine br_or ?_|refine br_d (fun _=>?_) fun _=>?_|refine vM (fun _=>?_) fun _=>?_)
    ((unfold deedT plainW at h; repeat' (split at h)) <;> first|exact h|(exfalso; simp_all; done)|(exfalso; simp_all; omega))
  ·repeat' (first|refine vz ?_|(conv=>whnf); first|with_reducible first|refine Sp.mk ?_ ?_|refine br_d (fun _=>?_) fun _=>?_|refine vM (fun _=>?_) fun _=>?_)
   all_goals ((unfold deedT plainW at h; repeat' (split at h)) <;> first|exact h|(exfalso; simp_all; done)|(exfalso; simp_all; omega))
end Go.Proofs.YtapeebjjljohdaaGreatDoor.Vc
end
section
/- Part TM: what a deed makes of a place, by the reference. -/
namespace Go.Proofs.YtapeebjjljohdaaGreatDoor.Vc
open Go.Proofs
set_option maxRecDepth 10000
set_option maxHeartbeats 4000000
structure Hc where
 h:House
 t:List Mark
 c:Int
def consB (x:Hc):Bool:=decide (termOk x.h x.t) && (decide (crowd x.h.p x.c) && says x.h.bs x.c x.t)
def C209:List AV→(AV→Prop)→Prop:=con (X:=Hc) (fun x=>[enH x.h,slM x.t,.int .i64 x.c]) (fun x=>termI x.h x.t∧i64r x.c) fun x K=>K (.bool (consB x))
theorem sayOk_of' {p:Int} {bs:List Int} {t:List Mark} (h:termOk ⟨p,bs⟩ t) {c:Int} (hc:crowd p c):sayOk ⟨p,bs,t,c⟩:=by
 have pw2:=(pw_le hc.1).2
 have hl:=h.2.1
 have hcl:=hc.2
 exact ⟨by show t.length<4611686018427387904; omega,h.2.2,fun b hb=>by have g:crowd p b:=(h.1.2.2 b hb).1; have:=g.2; omega,hcl.1,by show c<64; omega⟩
theorem F209:FF 112 C209:=by
 refine fitE [(127,C33),(129,C62),(147,C36)] (by simp only [List.mem_cons,List.not_mem_nil,or_false]; rintro _ (rfl|rfl|rfl) <;> first|exact F33|exact F62|exact F36) Tryz.f112 ⟨rfl,by decide +kernel,by decide +kernel⟩ (fun _ _ _ hk h=>hk _ h) ?_
 rintro ⟨⟨p,bs⟩,t,c⟩ K ⟨hI,hc⟩ h
 refine ⟨Nat.le_of_ble_eq_true rfl,?_⟩
 have hp:=hI.1.1
 unfold consB at h
 dsimp only [enH] at h hc hp ⊢
 repeat' (first|refine vz ?_|(conv=>whnf); first|with_reducible first|refine Sp.mk ?_ ?_|refine br_d (fun _=>?_) fun _=>?_|refine vM (fun _=>?_) fun _=>?_)
 refine ⟨(⟨p,bs⟩,t),?_,⟨hI⟩,?_⟩
 ·exact wq
 repeat' (first|refine vz ?_|(conv=>whnf); first|with_reducible first|refine Sp.mk ?_ ?_|refine br_d (fun _=>?_) fun _=>?_|refine vM (fun _=>?_) fun _=>?_)
 ·rename_i hO
  have hO':termOk ⟨p,bs⟩ t:=hO
  rw [decide_eq_true hO',Bool.true_and] at h
  refine ⟨(p,c),?_,⟨hp,hc⟩,?_⟩
  ·exact wq
  repeat' (first|refine vz ?_|(conv=>whnf); first|with_reducible first|refine Sp.mk ?_ ?_|refine br_d (fun _=>?_) fun _=>?_|refine vM (fun _=>?_) fun _=>?_)
  ·rename_i hcr
   have hcr':crowd p c:=hcr
   rw [decide_eq_true hcr',Bool.true_and] at h
   refine ⟨⟨p,bs,t,c⟩,?_,⟨sayOk_of' hO' hcr'⟩,?_⟩
   ·exact wq
   repeat' (first|refine vz ?_|(conv=>whnf); first|with_reducible first|refine Sp.mk ?_ ?_|refine br_d (fun _=>?_) fun _=>?_|refine vM (fun _=>?_) fun _=>?_)
   exact h
  ·rename_i hcr
   have hcr':¬ crowd p c:=hcr
   rw [decide_eq_false hcr',Bool.false_and] at h
   exact h
 ·rename_i hO
  have hO':¬ termOk ⟨p,bs⟩ t:=hO
  rw [decide_eq_false hO',Bool.false_and] at h
  exact h
def consR (x:Place) (r c:Int):Bool:=if 0≤r∧r<x.rules.length then (match rdT 49 x.h (x.rules.getD r.toNat ⟨#[]⟩) with
 |some t=>decide (crowd x.p c) && says x.bs c t
 |none=>false) else false
structure Pc where
 x:Place
 r:Int
 c:Int
def C206:List AV→(AV→Prop)→Prop:=con (X:=Pc) (fun x=>[enPl x.x,.int .i64 x.r,.int .i64 x.c]) (fun x=>placeI x.x∧i64r x.r∧i64r x.c) fun x K=>K (.bool (consR x.x x.r x.c))
theorem rdT_termI {h:House} (hI:houI h) {s:ByteArray} {t:List Mark} (e:rdT 49 h s=some t):termI h t∧termOk h t:=by
 obtain ⟨g1,g2,g3⟩:=(rdT_iff (by decide)).1 e
 have hs:=(read_tr (lo:=49) (bodies_of g2.1) (by decide) (Tr.of g2.2.2)).2 80 (by rw [g3]; exact g1) [] (by simp)
 rw [List.append_nil] at hs
 have hs':eitherP (partF 49 80) (bys (textT t))=some (t,[]):=by rw [hs]; rfl
 have hm:=eitherP_sane (by decide) 80 _ _ _ hs'
 have hl:=g2.2.1
 exact ⟨⟨hI.1,hI.2,hm,by omega⟩,g2⟩
theorem F206:FF 144 C206:=by
 refine fitE [(83,C35),(81,C153),(112,C209)] (by simp only [List.mem_cons,List.not_mem_nil,or_false]; rintro _ (rfl|rfl|rfl) <;> first|exact F35|exact F153|exact F209) Tryz.f144 ⟨rfl,by decide +kernel,by decide +kernel⟩ (fun _ _ _ hk h=>hk _ h) ?_
 rintro ⟨⟨p,bs,rs⟩,r,c⟩ K ⟨hI,hr,hc⟩ h
 refine ⟨Nat.le_of_ble_eq_true rfl,?_⟩
 have hI1:=hI.1
 have hI2:=hI.2.1
 have hI3:=hI.2.2
 unfold consR at h
 dsimp only [enPl,plC] at h hr hc hI2 hI3 ⊢
 repeat' (first|refine vz ?_|(conv=>whnf); first|with_reducible first|refine Sp.mk ?_ ?_|refine br_d (fun _=>?_) fun _=>?_|refine vM (fun _=>?_) fun _=>?_)
 refine ⟨(r,0,rs.length-1),?_,⟨trivial⟩,?_⟩
 ·exact wq
 dsimp only
 repeat' (first|refine vz ?_|(conv=>whnf); first|with_reducible first|refine Sp.mk ?_ ?_|refine br_d (fun _=>?_) fun _=>?_|refine vM (fun _=>?_) fun _=>?_)
 ·rename_i g
  rw [if_pos (by omega)] at h
  have hr2:r.toNat<rs.length:=by omega
  refine Dr.mk ⟨(.rd 0 (.rd 1 (.rd 2 (.rd 3 (.rd 4 (.rd 5 (.rd 6 (.ef 7 (.rd 8 (.rd 9 (.rd 10 (.rd 11 (.rd 12 .dn))))) .no)))))))),by decide +kernel,?_⟩
  repeat' (first|refine vz ?_|(conv=>whnf); first|with_reducible first|refine Sp.mk ?_ ?_|refine br_d (fun _=>?_) fun _=>?_|refine vM (fun _=>?_) fun _=>?_)
  refine ⟨⟨⟨p,bs⟩,rs.getD r.toNat ⟨#[]⟩⟩,?_,⟨hI1,getD_len hI3 hr2⟩,?_⟩
  ·exact wq
  refine And.intro (fun e=>?_) (fun t e=>?_)
  ·have e':rdT 49 (Place.h ⟨p,bs,rs⟩) (rs.getD r.toNat ⟨#[]⟩)=none:=by rw [← rdT_eq]; exact e
   rw [e'] at h
   repeat' (first|refine vz ?_|(conv=>whnf); first|with_reducible first|refine Sp.mk ?_ ?_|refine br_d (fun _=>?_) fun _=>?_|refine vM (fun _=>?_) fun _=>?_)
   refine ⟨⟨⟨p,bs⟩,[],c⟩,?_,⟨⟨hI1.1,hI1.2,by simp,by simp⟩,hc⟩,?_⟩
   ·exact wq
   have hno:consB ⟨⟨p,bs⟩,[],c⟩=false:=by
    unfold consB
    rw [decide_eq_false (fun q=>by have:=q.2.2; simp [walkP] at this)]
    rfl
   dsimp only
   rw [hno]
   repeat' (first|refine vz ?_|(conv=>whnf); first|with_reducible first|refine Sp.mk ?_ ?_|refine br_d (fun _=>?_) fun _=>?_|refine vM (fun _=>?_) fun _=>?_)
   exact h
  ·have e':rdT 49 (Place.h ⟨p,bs,rs⟩) (rs.getD r.toNat ⟨#[]⟩)=some t:=by rw [← rdT_eq]; exact e
   rw [e'] at h
   obtain ⟨ht,hO⟩:=rdT_termI hI1 e'
   repeat' (first|refine vz ?_|(conv=>whnf); first|with_reducible first|refine Sp.mk ?_ ?_|refine br_d (fun _=>?_) fun _=>?_|refine vM (fun _=>?_) fun _=>?_)
   refine ⟨⟨⟨p,bs⟩,t,c⟩,?_,⟨ht,hc⟩,?_⟩
   ·exact wq
   have hyes:consB ⟨⟨p,bs⟩,t,c⟩=(decide (crowd p c) && says bs c t):=by
    unfold consB
    rw [decide_eq_true (show termOk ⟨p,bs⟩ t from hO),Bool.true_and]
   dsimp only
   rw [hyes]
   repeat' (first|refine vz ?_|(conv=>whnf); first|with_reducible first|refine Sp.mk ?_ ?_|refine br_d (fun _=>?_) fun _=>?_|refine vM (fun _=>?_) fun _=>?_)
   exact h
 ·rename_i g
  rw [if_neg (by omega)] at h
  exact h
/-! ### Copies with memory of their own -/
def plG (x:Place):AV:=.agg [.int .i64 x.p,.row 0 1 0 x.bs.length,.row 1 1 0 x.rules.length]
def plO (x:Place):List Obj:=[.row 1 x.bs.length fun i=>encI (x.bs.getD i 0),.row 1 x.rules.length fun i=>encS (x.rules.getD i ⟨#[]⟩)]
def C158g:GC:=conG (X:=Place) (fun x=>[enPl x]) (fun _=>[]) (fun x=>x.rules.length≤100000000∧x.bs.length≤100000000) fun x K=>K (plG x) (plO x)
theorem F158g:GG 80 C158g:=by
 refine fitG [] (by simp) [] (by simp) Tryz.f80 ⟨rfl,by decide +kernel,by decide +kernel⟩ (by intro x K K2 hk h; (try dsimp only at h ⊢); intros; apply hk; first|exact h|(apply h <;> assumption)) ?_
 rintro ⟨p,bs,rs⟩ K ⟨h1,h2⟩ h
 refine ⟨Nat.le_of_ble_eq_true rfl,?_⟩
 unfold plG plO at h
 dsimp only [enPl,plC] at h h1 h2 ⊢
 repeat' (first|refine vz ?_|(conv=>whnf); first|with_reducible first|refine Sp.mk ?_ ?_|refine br_d (fun _=>?_) fun _=>?_|refine vM (fun _=>?_) fun _=>?_)
 refine Dr.mk ⟨(.rd 0 (.rd 1 (.rd 2 (.rd 4 (.rd 5 (.rd 6 (.rd 10 (.rd 11 (.ef 3 (.ef 7 (.rd 8 (.ef 9 (.ef 12 (.rd 13 (.ef 14 .dn .no)) .no) .no)) (.ef 9 (.ef 7 (.rd 8 (.ef 12 (.rd 13 (.ef 14 .dn .no)) .no)) .no) .no)) (.ef 9 (.ef 3 (.ef 7 (.rd 8 (.ef 12 (.rd 13 (.ef 14 .dn .no)) .no)) .no) .no) .no)))))))))),by decide +kernel,?_⟩
 repeat' (first|refine vz ?_|(conv=>whnf); first|with_reducible first|refine Sp.mk ?_ ?_|refine br_d (fun _=>?_) fun _=>?_|refine vM (fun _=>?_) fun _=>?_)
 all_goals
  first
  |(refine ⟨_,_,[some 2,some 3],[],rfl,rfl,?_,?_,h⟩ <;> (repeat' ((conv=>whnf); first|with_reducible exact True.intro|exact vW|with_reducible refine And.intro ?_ ?_)) <;> fail)
  |(refine ⟨_,_,[some 3,some 2],[],rfl,rfl,?_,?_,h⟩ <;> (repeat' ((conv=>whnf); first|with_reducible exact True.intro|exact vW|with_reducible refine And.intro ?_ ?_)) <;> fail)
def C157g:=C158g
theorem F157g:GG 77 C157g:=by
 refine fitG [] (by simp) [] (by simp) Tryz.f77 ⟨rfl,by decide +kernel,by decide +kernel⟩ (by intro x K K2 hk h; (try dsimp only at h ⊢); intros; apply hk; first|exact h|(apply h <;> assumption)) ?_
 rintro ⟨p,bs,rs⟩ K ⟨h1,h2⟩ h
 refine ⟨Nat.le_of_ble_eq_true rfl,?_⟩
 unfold plG plO at h
 dsimp only [enPl,plC] at h h1 h2 ⊢
 repeat' (first|refine vz ?_|(conv=>whnf); first|with_reducible first|refine Sp.mk ?_ ?_|refine br_d (fun _=>?_) fun _=>?_|refine vM (fun _=>?_) fun _=>?_)
 refine Dr.mk ⟨(.rd 0 (.rd 1 (.rd 2 (.rd 4 (.rd 5 (.rd 6 (.rd 10 (.rd 11 (.ef 3 (.ef 7 (.rd 8 (.ef 9 (.ef 12 (.rd 13 (.ef 14 .dn .no)) .no) .no)) (.ef 9 (.ef 7 (.rd 8 (.ef 12 (.rd 13 (.ef 14 .dn .no)) .no)) .no) .no)) (.ef 9 (.ef 3 (.ef 7 (.rd 8 (.ef 12 (.rd 13 (.ef 14 .dn .no)) .no)) .no) .no) .no)))))))))),by decide +kernel,?_⟩
 repeat' (first|refine vz ?_|(conv=>whnf); first|with_reducible first|refine Sp.mk ?_ ?_|refine br_d (fun _=>?_) fun _=>?_|refine vM (fun _=>?_) fun _=>?_)
 all_goals
  first
  |(refine ⟨_,_,[some 2,some 3],[],rfl,rfl,?_,?_,h⟩ <;> (repeat' ((conv=>whnf); first|with_reducible exact True.intro|exact vW|with_reducible refine And.intro ?_ ?_)) <;> fail)
  |(refine ⟨_,_,[some 3,some 2],[],rfl,rfl,?_,?_,h⟩ <;> (repeat' ((conv=>whnf); first|with_reducible exact True.intro|exact vW|with_reducible refine And.intro ?_ ?_)) <;> fail)
theorem ext_sym {α:Type} {enc:α→List AV} {d:α} {l:List α} {n:Nat} {g:Nat→List AV} (h:l.length=n∧∀ j,j<l.length→enc (l.getD j d)=g j):n=l.length∧∀ j,j<n→g (0+j)=enc (l.getD j d):=⟨h.1.symm,fun j hj=>by rw [Nat.zero_add]; exact (h.2 j (by rw [h.1]; exact hj)).symm⟩
theorem consR_in {x:Place} {r c:Int} (h:consR x r c=true):(0≤r∧r<x.rules.length)∧r.toNat<x.rules.length:=by
 unfold consR at h
 split at h
 ·rename_i g
  exact ⟨g,by omega⟩
 ·cases h
theorem ext_set {l:List ByteArray} {x:ByteArray} {n:Nat} (h:n<l.length):l.length=(l.set n x).length∧∀ i,i<l.length→setF (fun j=>encS (l.getD j ⟨#[]⟩)) (0+n) (encS x) (0+i)=encS ((l.set n x).getD i ⟨#[]⟩):=by
 refine ⟨by rw [List.length_set],fun i hi=>?_⟩
 rw [Nat.zero_add,Nat.zero_add,List.getD_eq_getElem?_getD,List.getElem?_set]
 unfold setF
 cases hb:Nat.beq i n with
 |true =>
  obtain rfl:=Nat.eq_of_beq_eq_true hb
  rw [if_pos rfl,if_pos h]
  rfl
 |false =>
  have:=Nat.ne_of_beq_eq_false hb
  rw [if_neg (fun e=>this e.symm),← List.getD_eq_getElem?_getD]
  rfl
theorem ext_cut {l:List ByteArray} {n:Nat} (h:n<l.length):n+(l.length-(n+1))=(l.take n ++ l.drop (n+1)).length∧∀ i,i<n+(l.length-(n+1))→appF n (fun j=>encS (l.getD j ⟨#[]⟩)) (fun j=>encS (l.getD (n+1+j) ⟨#[]⟩)) (0+i)=encS ((l.take n ++ l.drop (n+1)).getD i ⟨#[]⟩):=by
 have:=ext_app (enc:=encS) (d:=⟨#[]⟩) (l:=l) (m:=l.drop (n+1)) (n:=n) (g:=fun j=>encS (l.getD (n+1+j) ⟨#[]⟩)) (by omega) fun j hj=>by
  rw [List.getD_eq_getElem?_getD,List.getD_eq_getElem?_getD,List.getElem?_drop]
 rw [List.length_drop] at this
 exact ext_sym this
def madeP (x:Place) (a:Dd):Place :=
 if a.kind=0∧a.b=0∧a.words=⟨#[]⟩ then ⟨x.p,x.bs ++ [a.a],x.rules⟩
 else if a.kind=1∧a.a=0∧a.b=0 then ⟨x.p,x.bs,x.rules ++ [a.words]⟩
 else if a.kind=2∧consR x a.a a.b=true then ⟨x.p,x.bs,x.rules.set a.a.toNat a.words⟩
 else if a.kind=3∧a.words=⟨#[]⟩∧consR x a.a a.b=true then ⟨x.p,x.bs,x.rules.take a.a.toNat ++ x.rules.drop (a.a.toNat+1)⟩
 else default
section
variable {x:Place} {k a b:Int} {w:ByteArray}
theorem made_0n (h:k=0) (hn:¬ (b=0∧w=⟨#[]⟩)):madeP x ⟨k,a,b,w⟩=default:=by
 unfold madeP
 dsimp only
 rw [if_neg (fun q=>hn q.2),if_neg (by omega),if_neg (by omega),if_neg (by omega)]
theorem made_1n (h:k=1) (hn:¬ (a=0∧b=0)):madeP x ⟨k,a,b,w⟩=default:=by
 unfold madeP
 dsimp only
 rw [if_neg (by omega),if_neg (fun q=>hn q.2),if_neg (by omega),if_neg (by omega)]
theorem made_2n (h:k=2) (hn:consR x a b=false):madeP x ⟨k,a,b,w⟩=default:=by
 unfold madeP
 dsimp only
 rw [if_neg (by omega),if_neg (by omega),if_neg (fun q=>by rw [hn] at q; cases q.2),if_neg (by omega)]
theorem made_3n (h:k=3) (hn:¬ (w=⟨#[]⟩∧consR x a b=true)):madeP x ⟨k,a,b,w⟩=default:=by
 unfold madeP
 dsimp only
 rw [if_neg (by omega),if_neg (by omega),if_neg (by omega),if_neg (fun q=>hn q.2)]
theorem made_n (h0:¬ k=0) (h1:¬ k=1) (h2:¬ k=2) (h3:¬ k=3):madeP x ⟨k,a,b,w⟩=default:=by
 unfold madeP
 dsimp only
 rw [if_neg (by omega),if_neg (by omega),if_neg (by omega),if_neg (by omega)]
theorem made_0 (h:k=0) (h1:b=0) (h2:w=⟨#[]⟩):madeP x ⟨k,a,b,w⟩=⟨x.p,x.bs ++ [a],x.rules⟩:=if_pos ⟨h,h1,h2⟩
theorem made_1 (h:k=1) (h1:a=0) (h2:b=0):madeP x ⟨k,a,b,w⟩=⟨x.p,x.bs,x.rules ++ [w]⟩:=by
 unfold madeP
 dsimp only
 rw [if_neg (by omega),if_pos ⟨h,h1,h2⟩]
theorem made_2 (h:k=2) (h1:consR x a b=true):madeP x ⟨k,a,b,w⟩=⟨x.p,x.bs,x.rules.set a.toNat w⟩:=by
 unfold madeP
 dsimp only
 rw [if_neg (by omega),if_neg (by omega),if_pos ⟨h,h1⟩]
theorem made_3 (h:k=3) (h1:w=⟨#[]⟩) (h2:consR x a b=true):madeP x ⟨k,a,b,w⟩=⟨x.p,x.bs,x.rules.take a.toNat ++ x.rules.drop (a.toNat+1)⟩:=by
 unfold madeP
 dsimp only
 rw [if_neg (by omega),if_neg (by omega),if_neg (by omega),if_pos ⟨h,h1,h2⟩]
end
structure Pd where
 x:Place
 a:Dd
def shortP (x:Place):Prop:=x.rules.length≤100000000∧x.bs.length≤100000000
def dedI (a:Dd):Prop:=i64r a.kind∧i64r a.a∧i64r a.b∧a.words.size<9223372036854775808
def C199:List AV→(AV→Prop)→Prop:=con (X:=Pd) (fun x=>[enPl x.x,ded x.a]) (fun x=>placeI x.x∧shortP x.x∧dedI x.a) fun x K=>K (enPl (madeP x.x x.a))
theorem F199:FF 100 C199:=by
 refine fitXE [(144,C206)] (by simp only [List.mem_cons,List.not_mem_nil,or_false]; rintro _ rfl; exact F206) [(80,C158g)] (by simp only [List.mem_cons,List.not_mem_nil,or_false]; rintro _ rfl; exact F158g) Tryz.f100 ⟨rfl,by decide +kernel,by decide +kernel⟩ (fun _ _ _ hk h=>hk _ h) ?_
 rintro ⟨⟨p,bs,rs⟩,⟨k,a,b,w⟩⟩ K ⟨hI,hs,h1,h2,h3,h4⟩ h
 refine ⟨Nat.le_of_ble_eq_true rfl,?_⟩
 have hs1:=hs.1
 have hs2:=hs.2
 dsimp only [ded,encD,enPl,plC] at h1 h2 h3 h4 hs1 hs2 ⊢
 have x1:=ext_push (enc:=encI) (d:=0) (l:=bs) (x:=a) (g:=fun i=>(fun i=>[[AV.int .i64 a]].getD i [.int .i64 0]) (0+i)) rfl
 have x2:=ext_push (enc:=encS) (d:=⟨#[]⟩) (l:=rs) (x:=w) (g:=fun i=>(fun i=>[[AV.str w]].getD i [.str ⟨#[]⟩]) (0+i)) rfl
 have y1:=ext_sym x1
 have y2:=ext_sym x2
 repeat' (first|refine vz ?_|(conv=>whnf); first|with_reducible first|refine Sp.mk ?_ ?_|refine br_d (fun _=>?_) fun _=>?_|refine vM (fun _=>?_) fun _=>?_)
 refine ⟨_,_,[],[],rfl,?_,?_,⟨p,bs,rs⟩,rfl,rfl,⟨hs⟩,?_⟩
 ·exact wq
 ·exact wq
 dsimp only [plG,plO]
 repeat' (first|refine vz ?_|(conv=>whnf); first|with_reducible first|refine Sp.mk ?_ ?_|refine br_d (fun _=>?_) fun _=>?_|refine vM (fun _=>?_) fun _=>?_)
 ·have e:=made_0 (x:=⟨p,bs,rs⟩) (k:=k) (b:=b) (w:=w) (a:=a) (by assumption) (by assumption) (by assumption)
  replace h:K (enPl (madeP ⟨p,bs,rs⟩ ⟨k,a,b,w⟩)):=h
  rw [e] at h
  refine ⟨_,?_,h⟩
  repeat' ((conv=>whnf); first|with_reducible exact True.intro|exact vW|with_reducible refine And.intro ?_ ?_)
  all_goals first|exact Chk.mk ⟨rfl,fun i _=>by dsimp only; rw [Nat.zero_add]⟩|exact Chk.mk y1
 ·rename_i q1 q2 q3
  have e:=made_0n (x:=⟨p,bs,rs⟩) (a:=a) (b:=b) q1 fun q=>q3 q.2
  replace h:K (enPl (madeP ⟨p,bs,rs⟩ ⟨k,a,b,w⟩)):=h
  rw [e] at h
  refine ⟨_,?_,h⟩
  repeat' ((conv=>whnf); first|with_reducible exact True.intro|exact vW|with_reducible refine And.intro ?_ ?_)
 ·rename_i q1 q2
  have e:=made_0n (x:=⟨p,bs,rs⟩) (a:=a) (b:=b) (w:=w) q1 fun q=>q2 q.1
  replace h:K (enPl (madeP ⟨p,bs,rs⟩ ⟨k,a,b,w⟩)):=h
  rw [e] at h
  refine ⟨_,?_,h⟩
  repeat' ((conv=>whnf); first|with_reducible exact True.intro|exact vW|with_reducible refine And.intro ?_ ?_)
 ·rename_i q1 q2 q3 q4
  have e:=made_1 (x:=⟨p,bs,rs⟩) (w:=w) q1 q2 q3
  replace h:K (enPl (madeP ⟨p,bs,rs⟩ ⟨k,a,b,w⟩)):=h
  rw [e] at h
  refine ⟨_,?_,h⟩
  repeat' ((conv=>whnf); first|with_reducible exact True.intro|exact vW|with_reducible refine And.intro ?_ ?_)
  all_goals first|exact Chk.mk ⟨rfl,fun i _=>by dsimp only; rw [Nat.zero_add]⟩|exact Chk.mk y2
 ·rename_i hw
  exact absurd rfl hw
 ·rename_i q1 q2 q3
  have e:=made_1n (x:=⟨p,bs,rs⟩) (w:=w) (a:=a) (b:=b) q1 fun q=>q3 q.2
  replace h:K (enPl (madeP ⟨p,bs,rs⟩ ⟨k,a,b,w⟩)):=h
  rw [e] at h
  refine ⟨_,?_,h⟩
  repeat' ((conv=>whnf); first|with_reducible exact True.intro|exact vW|with_reducible refine And.intro ?_ ?_)
 ·rename_i q1 q2
  have e:=made_1n (x:=⟨p,bs,rs⟩) (w:=w) (a:=a) (b:=b) q1 fun q=>q2 q.1
  replace h:K (enPl (madeP ⟨p,bs,rs⟩ ⟨k,a,b,w⟩)):=h
  rw [e] at h
  refine ⟨_,?_,h⟩
  repeat' ((conv=>whnf); first|with_reducible exact True.intro|exact vW|with_reducible refine And.intro ?_ ?_)
 ·rename_i q1
  refine ⟨⟨⟨p,bs,rs⟩,a,b⟩,?_,⟨hI,h2,h3⟩,?_⟩
  ·exact wq
  dsimp only
  cases hc:consR ⟨p,bs,rs⟩ a b
  ·have e:=made_2n (x:=⟨p,bs,rs⟩) (w:=w) q1 hc
   repeat' (first|refine vz ?_|(conv=>whnf); first|with_reducible first|refine Sp.mk ?_ ?_|refine br_d (fun _=>?_) fun _=>?_|refine vM (fun _=>?_) fun _=>?_)
   replace h:K (enPl (madeP ⟨p,bs,rs⟩ ⟨k,a,b,w⟩)):=h
   rw [e] at h
   refine ⟨_,?_,h⟩
   repeat' ((conv=>whnf); first|with_reducible exact True.intro|exact vW|with_reducible refine And.intro ?_ ?_)
  ·have hr:=consR_in hc
   dsimp only at hr
   have y3:=ext_set (x:=w) hr.2
   have e:=made_2 (x:=⟨p,bs,rs⟩) (w:=w) q1 hc
   repeat' (first|refine vz ?_|(conv=>whnf); first|with_reducible first|refine Sp.mk ?_ ?_|refine br_d (fun _=>?_) fun _=>?_|refine vM (fun _=>?_) fun _=>?_)
   replace h:K (enPl (madeP ⟨p,bs,rs⟩ ⟨k,a,b,w⟩)):=h
   rw [e] at h
   refine ⟨_,?_,h⟩
   repeat' ((conv=>whnf); first|with_reducible exact True.intro|exact vW|with_reducible refine And.intro ?_ ?_)
   all_goals first|exact Chk.mk ⟨rfl,fun i _=>by dsimp only; rw [Nat.zero_add]⟩|exact Chk.mk y3
 ·rename_i q1 q2
  refine ⟨⟨⟨p,bs,rs⟩,a,b⟩,?_,⟨hI,h2,h3⟩,?_⟩
  ·exact wq
  dsimp only
  cases hc:consR ⟨p,bs,rs⟩ a b
  ·have e:=made_3n (x:=⟨p,bs,rs⟩) (w:=w) (a:=a) (b:=b) q1 fun q=>by rw [hc] at q; cases q.2
   repeat' (first|refine vz ?_|(conv=>whnf); first|with_reducible first|refine Sp.mk ?_ ?_|refine br_d (fun _=>?_) fun _=>?_|refine vM (fun _=>?_) fun _=>?_)
   replace h:K (enPl (madeP ⟨p,bs,rs⟩ ⟨k,a,b,w⟩)):=h
   rw [e] at h
   refine ⟨_,?_,h⟩
   repeat' ((conv=>whnf); first|with_reducible exact True.intro|exact vW|with_reducible refine And.intro ?_ ?_)
  ·have hr:=consR_in hc
   dsimp only at hr
   have y3:=ext_cut hr.2
   have e:=made_3 (x:=⟨p,bs,rs⟩) (w:=w) q1 q2 hc
   repeat' (first|refine vz ?_|(conv=>whnf); first|with_reducible first|refine Sp.mk ?_ ?_|refine br_d (fun _=>?_) fun _=>?_|refine vM (fun _=>?_) fun _=>?_)
   have e5:(a+1).toNat=a.toNat+1:=by omega
   have y4:a.toNat-Int.toNat 0+((rs.length:Int).toNat-(a+1).toNat)=(rs.take a.toNat ++ rs.drop (a.toNat+1)).length∧∀ i,i<a.toNat-Int.toNat 0+((rs.length:Int).toNat-(a+1).toNat)→appF (a.toNat-Int.toNat 0) (fun i=>(fun i=>encS (rs.getD i ⟨#[]⟩)) (Int.toNat 0+i)) (fun i=>(fun i=>encS (rs.getD i ⟨#[]⟩)) ((a+1).toNat+i)) (0+i)=encS ((rs.take a.toNat ++ rs.drop (a.toNat+1)).getD i ⟨#[]⟩):=by
    rw [e5,show Int.toNat 0=0 from rfl,Nat.sub_zero,Int.toNat_natCast]
    simp only [Nat.zero_add] at y3 ⊢
    exact y3
   refine Dr.mk ⟨(.rd 0 (.rd 1 (.rd 3 (.rd 4 (.rd 5 (.rd 6 (.rd 7 (.rd 9 (.rd 10 (.rd 11 (.rd 12 (.rd 13 (.rd 14 (.ef 2 (.ef 8 (.ef 15 (.rd 16 (.ef 17 .dn .no)) .no) .no) .no)))))))))))))),by decide +kernel,?_⟩
   repeat' (first|refine vz ?_|(conv=>whnf); first|with_reducible first|refine Sp.mk ?_ ?_|refine br_d (fun _=>?_) fun _=>?_|refine vM (fun _=>?_) fun _=>?_)
   replace h:K (enPl (madeP ⟨p,bs,rs⟩ ⟨k,a,b,w⟩)):=h
   rw [e] at h
   refine ⟨_,?_,h⟩
   repeat' ((conv=>whnf); first|with_reducible exact True.intro|exact vW|with_reducible refine And.intro ?_ ?_)
   all_goals first|exact Chk.mk ⟨rfl,fun i _=>by dsimp only; rw [Nat.zero_add]⟩|exact Chk.mk y4
 ·rename_i q1 q2
  have e:=made_3n (x:=⟨p,bs,rs⟩) (a:=a) (b:=b) (w:=w) q1 fun q=>q2 q.1
  replace h:K (enPl (madeP ⟨p,bs,rs⟩ ⟨k,a,b,w⟩)):=h
  rw [e] at h
  refine ⟨_,?_,h⟩
  repeat' ((conv=>whnf); first|with_reducible exact True.intro|exact vW|with_reducible refine And.intro ?_ ?_)
 ·have e:=made_n (x:=⟨p,bs,rs⟩) (a:=a) (b:=b) (w:=w) (by assumption) (by assumption) (by assumption) (by assumption)
  replace h:K (enPl (madeP ⟨p,bs,rs⟩ ⟨k,a,b,w⟩)):=h
  rw [e] at h
  refine ⟨_,?_,h⟩
  repeat' ((conv=>whnf); first|with_reducible exact True.intro|exact vW|with_reducible refine And.intro ?_ ?_)
end Go.Proofs.YtapeebjjljohdaaGreatDoor.Vc
end
section
/- Part QH: questions about a rule, by the reference. -/
namespace Go.Proofs.YtapeebjjljohdaaGreatDoor.Vc
open Go.Proofs
set_option maxRecDepth 100000
set_option maxHeartbeats 4000000
theorem shw6:∀ k,k<6→(1:Int)*2 ^ min ((k:Nat):Int).toNat IntKind.i64.bits=((2 ^ k:Nat):Int)∧(2 ^ k:Nat)≤32:=by decide +kernel
theorem shw_nat {k:Nat} (h:k<6):(1:Int)*2 ^ min ((k:Nat):Int).toNat IntKind.i64.bits=((2 ^ k:Nat):Int):=(shw6 k h).1
def C331:List AV→(AV→Prop)→Prop:=con (X:=House × List Mark) (fun x=>[enH x.1,slM x.2]) (fun x=>termOk x.1 x.2) fun x K=>K (slI (sayl x.1.bs x.2 (pw x.1.p).toNat))
theorem F331:FF 146 C331:=by
 refine fitE [(147,C36)] (by simp only [List.mem_cons,List.not_mem_nil,or_false]; rintro _ rfl <;> first|exact F36) Tryz.f146 ⟨rfl,by decide +kernel,by decide +kernel⟩ (fun _ _ _ hk h=>hk _ h) ?_
 rintro ⟨⟨p,bs⟩,t⟩ K hO h
 refine ⟨Nat.le_of_ble_eq_true rfl,?_⟩
 dsimp only [enH] at h hO ⊢
 have hO':termOk ⟨p,bs⟩ t:=hO
 have pp:people p:=hO'.1.1
 have hp:=pw_le pp
 have hp1:=pp.1
 have hp6:=pp.2
 repeat' (first|refine vz ?_|(conv=>whnf); first|with_reducible first|refine Sp.mk ?_ ?_|refine br_d (fun _=>?_) fun _=>?_|refine vM (fun _=>?_) fun _=>?_)
 refine Lp.mk ⟨Nat,fun i=>[(1,slM t),(2,.ptr 0 0),(5,.row 1 1 0 (sayl bs t i).length),(6,.int .i64 i)],
  fun i=>[.box [.int .i64 p,slI bs],.row 1 (sayl bs t i).length fun j=>encI ((sayl bs t i).getD j 0)],fun i=>i≤(pw p).toNat,fun i=>(pw p).toNat-i,⟨0,Nat.zero_le _,⟨⟨[some 0,none],[],rfl,rfl,?_,?_⟩⟩⟩,?_⟩
 ·exact wq
 ·exact wq
 intro i i1
 dsimp only
 have hll:(sayl bs t i).length≤i:=cl_le _ i
 repeat' (first|refine vz ?_|(conv=>whnf); first|with_reducible refine Wr.ex (wsh pp) ?_|with_reducible first|refine Sp.mk ?_ ?_|refine br_d (fun _=>?_) fun _=>?_|refine vM (fun _=>?_) fun _=>?_)
 ·rename_i hi
  rw [pw_sh pp] at hi
  refine ⟨⟨p,bs,t,i⟩,?_,⟨(sayOk_of hO' _ (by omega) (by omega):sayOk ⟨p,bs,t,(i:Int)⟩)⟩,?_⟩
  ·exact wq
  dsimp only
  repeat' (first|refine vz ?_|(conv=>whnf); first|with_reducible first|refine Sp.mk ?_ ?_|refine br_d (fun _=>?_) fun _=>?_|refine vM (fun _=>?_) fun _=>?_)
  ·rename_i hv
   have e:sayl bs t (i+1)=sayl bs t i ++ [(i:Int)]:=by unfold sayl; rw [cl_t hv]
   refine ⟨i+1,by omega,by omega,?_⟩
   first|(refine ⟨⟨[some 0,some 3],[],rfl,rfl,?_,?_⟩⟩ <;> (repeat' ((conv=>whnf); first|with_reducible exact True.intro|exact vW|with_reducible refine And.intro ?_ ?_|exact Chk.mk ⟨rfl,by rw [e]; simp⟩|exact Chk.mk (by rw [e]; exact app_ext rfl))) <;> fail)|(refine ⟨⟨[some 0,some 2],[],rfl,rfl,?_,?_⟩⟩ <;> (repeat' ((conv=>whnf); first|with_reducible exact True.intro|exact vW|with_reducible refine And.intro ?_ ?_|exact Chk.mk ⟨rfl,by rw [e]; simp⟩|exact Chk.mk (by rw [e]; exact app_ext rfl))) <;> fail)
  ·rename_i hv
   have e:sayl bs t (i+1)=sayl bs t i:=by unfold sayl; rw [cl_f hv]
   refine ⟨i+1,by omega,by omega,⟨⟨[some 0,some 1],[],rfl,rfl,?_,?_⟩⟩⟩
   ·repeat' ((conv=>whnf); first|with_reducible exact True.intro|exact vW|with_reducible refine And.intro ?_ ?_)
    all_goals exact Chk.mk ⟨rfl,by rw [e]⟩
   ·repeat' ((conv=>whnf); first|with_reducible exact True.intro|exact vW|with_reducible refine And.intro ?_ ?_)
    all_goals exact Chk.mk (by rw [e]; exact ⟨rfl,fun _ _=>rfl⟩)
 ·rename_i hi
  rw [pw_sh pp] at hi
  rw [show (pw p).toNat=i by omega] at h
  refine Eq.mp (congrArg (fun z=>K (AV.sl 1 _ z)) ?_) h
  funext j
  dsimp only
  rw [Nat.zero_add]
structure Pl where
 p:Int
 l:List Int
def C332:List AV→(AV→Prop)→Prop:=con (X:=Pl) (fun x=>[.int .i64 x.p,slI x.l]) (fun x=>people x.p∧x.l.length≤64) fun x K=>K (slI (leastF x.l (pw x.p).toNat))
theorem F332:FF 145 C332:=by
 refine fitE [] (by simp) Tryz.f145 ⟨rfl,by decide +kernel,by decide +kernel⟩ (fun _ _ _ hk h=>hk _ h) ?_
 rintro ⟨p,L⟩ K ⟨pp,hL⟩ h
 refine ⟨Nat.le_of_ble_eq_true rfl,?_⟩
 dsimp only at h pp hL ⊢
 have hp:=pw_le pp
 repeat' (first|refine vz ?_|(conv=>whnf); first|with_reducible first|refine Sp.mk ?_ ?_|refine br_d (fun _=>?_) fun _=>?_|refine vM (fun _=>?_) fun _=>?_)
 refine Lp.mk ⟨Nat,fun i=>[(0,.int .i64 p),(1,slI L),(5,.row 0 1 0 (leastF L i).length),(6,.int .i64 i)],
  fun i=>[.row 1 (leastF L i).length fun j=>encI ((leastF L i).getD j 0)],fun i=>i≤(pw p).toNat,fun i=>(pw p).toNat-i,⟨0,Nat.zero_le _,⟨⟨[none],[],rfl,rfl,?_,?_⟩⟩⟩,?_⟩
 ·exact wq
 ·exact wq
 intro i i1
 dsimp only
 have hll:(leastF L i).length≤i:=cl_le _ i
 repeat' (first|refine vz ?_|(conv=>whnf); first|with_reducible refine Wr.ex (wsh pp) ?_|with_reducible first|refine Sp.mk ?_ ?_|refine br_d (fun _=>?_) fun _=>?_|refine vM (fun _=>?_) fun _=>?_)
 ·rename_i hi
  rw [pw_sh pp] at hi
  refine Lp.mk ⟨Nat,fun j=>[(0,.int .i64 p),(1,slI L),(5,.row 0 1 0 (leastF L i).length),(6,.int .i64 i),(7,.bool (memB (L.take j) i)),(8,.bool (lsB (L.take j) i)),(9,.int .i64 j)],
   fun j=>[.row 1 (leastF L i).length fun j=>encI ((leastF L i).getD j 0)],fun j=>j≤L.length,fun j=>L.length-j,⟨0,Nat.zero_le _,⟨⟨[some 0],[],rfl,rfl,?_,?_⟩⟩⟩,?_⟩
  ·exact wq
  ·exact wq
  intro j j1
  dsimp only
  repeat' (first|refine vz ?_|(conv=>whnf); first|with_reducible first|refine Sp.mk ?_ ?_|refine br_d (fun _=>?_) fun _=>?_|refine vM (fun _=>?_) fun _=>?_)
  rotate_right 3
  ·rename_i q1 q2 q3
   rw [List.take_of_length_le (by omega)] at q2 q3
   have hq:leastP L i=true:=by unfold leastP; rw [q2,q3]; rfl
   have e:leastF L (i+1)=leastF L i ++ [(i:Int)]:=cl_t hq
   refine ⟨i+1,by omega,by omega,?_⟩
   first|(refine ⟨⟨[some 2],[],rfl,rfl,?_,?_⟩⟩ <;> (repeat' ((conv=>whnf); first|with_reducible exact True.intro|exact vW|with_reducible refine And.intro ?_ ?_|exact Chk.mk ⟨rfl,by rw [e]; simp⟩|exact Chk.mk (by rw [e]; exact app_ext rfl))) <;> fail)|(refine ⟨⟨[some 1],[],rfl,rfl,?_,?_⟩⟩ <;> (repeat' ((conv=>whnf); first|with_reducible exact True.intro|exact vW|with_reducible refine And.intro ?_ ?_|exact Chk.mk ⟨rfl,by rw [e]; simp⟩|exact Chk.mk (by rw [e]; exact app_ext rfl))) <;> fail)
  ·rename_i q1 q2 q3
   rw [List.take_of_length_le (by omega)] at q2 q3
   have hq:leastP L i=false:=by unfold leastP; rw [q2,q3]; rfl
   have e:leastF L (i+1)=leastF L i:=cl_f hq
   refine ⟨i+1,by omega,by omega,⟨⟨[some 0],[],rfl,rfl,?_,?_⟩⟩⟩
   ·repeat' ((conv=>whnf); first|with_reducible exact True.intro|exact vW|with_reducible refine And.intro ?_ ?_)
    all_goals exact Chk.mk ⟨rfl,by rw [e]⟩
   ·repeat' ((conv=>whnf); first|with_reducible exact True.intro|exact vW|with_reducible refine And.intro ?_ ?_)
    all_goals exact Chk.mk (by rw [e]; exact ⟨rfl,fun _ _=>rfl⟩)
  ·rename_i q1 q2
   rw [List.take_of_length_le (by omega)] at q2
   have hq:leastP L i=false:=by unfold leastP; rw [q2]; rfl
   have e:leastF L (i+1)=leastF L i:=cl_f hq
   refine ⟨i+1,by omega,by omega,⟨⟨[some 0],[],rfl,rfl,?_,?_⟩⟩⟩
   ·repeat' ((conv=>whnf); first|with_reducible exact True.intro|exact vW|with_reducible refine And.intro ?_ ?_)
    all_goals exact Chk.mk ⟨rfl,by rw [e]⟩
   ·repeat' ((conv=>whnf); first|with_reducible exact True.intro|exact vW|with_reducible refine And.intro ?_ ?_)
    all_goals exact Chk.mk (by rw [e]; exact ⟨rfl,fun _ _=>rfl⟩)
  all_goals
   have hj':j<L.length:=by omega
   have e1:memB (L.take (j+1)) i=(memB (L.take j) i || decide (L.getD j 0=i)):=any_succ hj'
   have e2:lsB (L.take (j+1)) i=(lsB (L.take j) i && (decide (L.getD j 0=i) || decide (¬ band (L.getD j 0) i=L.getD j 0))):=all_succ hj'
   refine Dr.mk ⟨(.rd 0 (.rd 1 (.rd 2 (.rd 3 (.rd 4 (.rd 5 (.rd 6 (.rd 7 (.rd 8 (.rd 9 (.rd 10 (.rd 11 (.rd 12 (.rd 13 (.rd 14 (.rd 15 (.rd 16 (.rd 17 (.rd 18 (.rd 19 (.rd 20 (.rd 21 (.rd 22 .dn))))))))))))))))))))))),by decide +kernel,?_⟩
   repeat' (first|refine vz ?_|(conv=>whnf); first|with_reducible first|refine Sp.mk ?_ ?_|refine br_d (fun _=>?_) fun _=>?_|refine vM (fun _=>?_) fun _=>?_)
  all_goals
   refine ⟨j+1,by omega,by omega,⟨⟨[some 0],[],rfl,rfl,?_,?_⟩⟩⟩
   ·repeat' ((conv=>whnf); first|with_reducible exact True.intro|exact vW|with_reducible refine And.intro ?_ ?_)
    all_goals first|rw [e1]|rw [e2]
    all_goals try have x':L.getD j 0=(i:Int):=(by assumption:L.getD ((j:Int)).toNat 0=(i:Int))
    all_goals try have x':¬ L.getD j 0=(i:Int):=(by assumption:¬ L.getD ((j:Int)).toNat 0=(i:Int))
    all_goals simp only [*,Int.toNat_natCast,Bool.true_or,Bool.false_or,Bool.or_true,Bool.or_false,Bool.true_and,Bool.false_and,decide_true,decide_false,decide_not]
    all_goals
     repeat' ((conv=>whnf); first|with_reducible exact True.intro|exact vW|with_reducible refine And.intro ?_ ?_)
   ·exact wq
 ·rename_i hi
  rw [pw_sh pp] at hi
  rw [show (pw p).toNat=i by omega] at h
  refine Eq.mp (congrArg (fun z=>K (AV.sl 1 _ z)) ?_) h
  funext j
  dsimp only
  rw [Nat.zero_add]
open Classical in
def C324:List AV→(AV→Prop)→Prop:=con (X:=House × List Mark) (fun x=>[enH x.1,slM x.2]) (fun x=>termI x.1 x.2) fun x K=>K (slI (if termOk x.1 x.2 then leastF (sayl x.1.bs x.2 (pw x.1.p).toNat) (pw x.1.p).toNat else []))
theorem F324:FF 103 C324:=by
 refine fitXE [(127,C33),(146,C331),(145,C332)] (by simp only [List.mem_cons,List.not_mem_nil,or_false]; rintro _ (rfl|rfl|rfl) <;> first|exact F33|exact F331|exact F332) [] (by simp) Tryz.f103 ⟨rfl,by decide +kernel,by decide +kernel⟩ (by intro x K K2 hk h; (try dsimp only at h ⊢); intros; apply hk; first|exact h|(apply h <;> assumption)) ?_
 rintro ⟨⟨p,bs⟩,t⟩ K hI h
 refine ⟨Nat.le_of_ble_eq_true rfl,?_⟩
 dsimp only [enH] at h hI ⊢
 repeat' (first|refine vz ?_|(conv=>whnf); first|with_reducible first|refine Sp.mk ?_ ?_|refine br_d (fun _=>?_) fun _=>?_|refine vM (fun _=>?_) fun _=>?_)
 refine ⟨(⟨p,bs⟩,t),?_,⟨hI⟩,?_⟩
 ·exact wq
 repeat' (first|refine vz ?_|(conv=>whnf); first|with_reducible first|refine Sp.mk ?_ ?_|refine br_d (fun _=>?_) fun _=>?_|refine vM (fun _=>?_) fun _=>?_)
 ·rename_i hO
  have hO':termOk ⟨p,bs⟩ t:=hO
  have pp:people p:=hO'.1.1
  have hp:=pw_le pp
  have hp1:=pp.1
  have hp6:=pp.2
  rw [if_pos hO'] at h
  refine Dr.mk ⟨(.rd 0 (.rd 1 (.rd 2 (.rd 3 (.ef 4 (.ef 5 (.rd 6 .dn) .no) .no))))),by decide +kernel,?_⟩
  repeat' (first|refine vz ?_|(conv=>whnf); first|with_reducible first|refine Sp.mk ?_ ?_|refine br_d (fun _=>?_) fun _=>?_|refine vM (fun _=>?_) fun _=>?_)
  refine ⟨(⟨p,bs⟩,t),?_,⟨hO'⟩,?_⟩
  ·exact wq
  dsimp only
  repeat' (first|refine vz ?_|(conv=>whnf); first|with_reducible first|refine Sp.mk ?_ ?_|refine br_d (fun _=>?_) fun _=>?_|refine vM (fun _=>?_) fun _=>?_)
  refine ⟨⟨p,sayl bs t (pw p).toNat⟩,?_,⟨pp,by have:(sayl bs t (pw p).toNat).length≤(pw p).toNat:=cl_le _ _; dsimp only; omega⟩,?_⟩
  ·exact wq
  repeat' (first|refine vz ?_|(conv=>whnf); first|with_reducible first|refine Sp.mk ?_ ?_|refine br_d (fun _=>?_) fun _=>?_|refine vM (fun _=>?_) fun _=>?_)
  refine ⟨_,?_,h⟩
  repeat' ((conv=>whnf); first|with_reducible exact True.intro|exact vW|with_reducible refine And.intro ?_ ?_)
 ·rename_i hO
  rw [if_neg (show ¬ termOk ⟨p,bs⟩ t from hO)] at h
  refine ⟨_,?_,h⟩
  repeat' ((conv=>whnf); first|with_reducible exact True.intro|exact vW|with_reducible refine And.intro ?_ ?_)
  all_goals exact Chk.mk ⟨rfl,fun i hi=>absurd hi (Nat.not_lt_zero _)⟩
def C325:List AV→(AV→Prop)→Prop:=con (X:=House × List Mark) (fun x=>[enH x.1,slM x.2]) (fun x=>termI x.1 x.2) fun x K=>K (.int .i64 (if termOk x.1 x.2 then (sayl x.1.bs x.2 (pw x.1.p).toNat).length else -1))
theorem F325:FF 104 C325:=by
 refine fitE [(127,C33),(146,C331)] (by simp only [List.mem_cons,List.not_mem_nil,or_false]; rintro _ (rfl|rfl) <;> first|exact F33|exact F331) Tryz.f104 ⟨rfl,by decide +kernel,by decide +kernel⟩ (fun _ _ _ hk h=>hk _ h) ?_
 rintro ⟨⟨p,bs⟩,t⟩ K hI h
 refine ⟨Nat.le_of_ble_eq_true rfl,?_⟩
 dsimp only [enH] at h hI ⊢
 repeat' (first|refine vz ?_|(conv=>whnf); first|with_reducible first|refine Sp.mk ?_ ?_|refine br_d (fun _=>?_) fun _=>?_|refine vM (fun _=>?_) fun _=>?_)
 refine ⟨(⟨p,bs⟩,t),?_,⟨hI⟩,?_⟩
 ·exact wq
 repeat' (first|refine vz ?_|(conv=>whnf); first|with_reducible first|refine Sp.mk ?_ ?_|refine br_d (fun _=>?_) fun _=>?_|refine vM (fun _=>?_) fun _=>?_)
 ·rename_i hO
  have hO':termOk ⟨p,bs⟩ t:=hO
  have pp:people p:=hO'.1.1
  have hp:=pw_le pp
  have hp1:=pp.1
  have hp6:=pp.2
  rw [if_pos hO'] at h
  refine ⟨(⟨p,bs⟩,t),?_,⟨hO'⟩,?_⟩
  ·exact wq
  dsimp only
  repeat' (first|refine vz ?_|(conv=>whnf); first|with_reducible first|refine Sp.mk ?_ ?_|refine br_d (fun _=>?_) fun _=>?_|refine vM (fun _=>?_) fun _=>?_)
  exact h
 ·rename_i hO
  rw [if_neg (show ¬ termOk ⟨p,bs⟩ t from hO)] at h
  exact h
def C326:List AV→(AV→Prop)→Prop:=con (X:=House × List Mark) (fun x=>[enH x.1,slM x.2]) (fun x=>termI x.1 x.2) fun x K=>K (.int .i64 (if termOk x.1 x.2 then needF x.1.p x.1.bs x.2 x.1.p.toNat else -1))
theorem F326:FF 105 C326:=by
 refine fitE [(127,C33),(147,C36)] (by simp only [List.mem_cons,List.not_mem_nil,or_false]; rintro _ (rfl|rfl) <;> first|exact F33|exact F36) Tryz.f105 ⟨rfl,by decide +kernel,by decide +kernel⟩ (fun _ _ _ hk h=>hk _ h) ?_
 rintro ⟨⟨p,bs⟩,t⟩ K hI h
 refine ⟨Nat.le_of_ble_eq_true rfl,?_⟩
 dsimp only [enH] at h hI ⊢
 repeat' (first|refine vz ?_|(conv=>whnf); first|with_reducible first|refine Sp.mk ?_ ?_|refine br_d (fun _=>?_) fun _=>?_|refine vM (fun _=>?_) fun _=>?_)
 refine ⟨(⟨p,bs⟩,t),?_,⟨hI⟩,?_⟩
 ·exact wq
 repeat' (first|refine vz ?_|(conv=>whnf); first|with_reducible first|refine Sp.mk ?_ ?_|refine br_d (fun _=>?_) fun _=>?_|refine vM (fun _=>?_) fun _=>?_)
 ·rename_i hO
  have hO':termOk ⟨p,bs⟩ t:=hO
  have pp:people p:=hO'.1.1
  have hp:=pw_le pp
  have hp1:=pp.1
  have hp6:=pp.2
  rw [if_pos hO'] at h
  repeat' (first|refine vz ?_|(conv=>whnf); first|with_reducible refine Wr.ex (wsh pp) ?_|with_reducible refine Wr.ex (wi64 (by rw [pw_sh pp]; omega) (by rw [pw_sh pp]; omega)) ?_|with_reducible first|refine Sp.mk ?_ ?_|refine br_d (fun _=>?_) fun _=>?_|refine vM (fun _=>?_) fun _=>?_)
  refine Lp.mk ⟨Nat,fun i=>[(1,slM t),(2,.ptr 0 0),(5,.int .i64 (needF p bs t i)),(6,.int .i64 (full p)),(7,.int .i64 i)],
   fun _=>[.box [.int .i64 p,slI bs]],fun i=>i≤p.toNat,fun i=>p.toNat-i,⟨0,Nat.zero_le _,⟨⟨[some 0],[],rfl,rfl,?_,?_⟩⟩⟩,?_⟩
  ·repeat' ((conv=>whnf); first|with_reducible exact True.intro|exact vW|with_reducible refine And.intro ?_ ?_)
   all_goals exact Chk.mk (by rw [pw_sh pp]; rfl)
  ·exact wq
  intro i i1
  dsimp only
  have hl:=need_lt (p:=p) (bs:=bs) (t:=t) i (by omega)
  repeat' (first|refine vz ?_|(conv=>whnf); first|with_reducible first|refine Sp.mk ?_ ?_|refine br_d (fun _=>?_) fun _=>?_|refine vM (fun _=>?_) fun _=>?_)
  ·rename_i hi
   have hx:=xor_who pp (k:=i) (by omega)
   have hw:=shw_nat (k:=i) (by omega)
   refine Dr.mk ⟨(.rd 0 (.rd 1 (.rd 2 (.rd 3 (.rd 4 (.rd 5 (.ef 6 (.rd 7 .dn) .no))))))),by decide +kernel,?_⟩
   repeat' (first|refine vz ?_|(conv=>whnf); first|with_reducible refine Wr.ex (wshw (by omega) (by omega)) ?_|with_reducible refine Wr.ex (wi64 (by rw [hw]; omega) (by rw [hw]; omega)) ?_|with_reducible first|refine Sp.mk ?_ ?_|refine br_d (fun _=>?_) fun _=>?_|refine vM (fun _=>?_) fun _=>?_)
   refine ⟨⟨p,bs,t,full p-((2 ^ i:Nat):Int)⟩,?_,⟨sayOk_of hO' _ hx.2.1 hx.2.2⟩,?_⟩
   ·repeat' ((conv=>whnf); first|with_reducible exact True.intro|exact vW|with_reducible refine And.intro ?_ ?_)
    all_goals exact Chk.mk (by rw [hw])
   dsimp only
   repeat' (first|refine vz ?_|(conv=>whnf); first|with_reducible refine Wr.ex (wshw (by omega) (by omega)) ?_|with_reducible first|refine Sp.mk ?_ ?_|refine br_d (fun _=>?_) fun _=>?_|refine vM (fun _=>?_) fun _=>?_)
   ·rename_i hv
    refine ⟨i+1,by show i+1≤p.toNat; omega,by show p.toNat-(i+1)<p.toNat-i; omega,⟨⟨[some 0],[],rfl,rfl,?_,?_⟩⟩⟩
    ·repeat' ((conv=>whnf); first|with_reducible exact True.intro|exact vW|with_reducible refine And.intro ?_ ?_)
     all_goals exact Chk.mk (by rw [needF,if_pos hv])
    ·exact wq
   ·rename_i hv
    refine ⟨i+1,by show i+1≤p.toNat; omega,by show p.toNat-(i+1)<p.toNat-i; omega,⟨⟨[some 0],[],rfl,rfl,?_,?_⟩⟩⟩
    ·repeat' ((conv=>whnf); first|with_reducible exact True.intro|exact vW|with_reducible refine And.intro ?_ ?_)
     all_goals exact Chk.mk (by rw [needF,if_neg (by rw [hv]; exact Bool.false_ne_true)]; rfl)
    ·exact wq
  ·rw [show i=p.toNat by omega]
   exact h
 ·rename_i hO
  rw [if_neg (show ¬ termOk ⟨p,bs⟩ t from hO)] at h
  exact h
theorem sameU_succ {bs:List Int} {t:List Mark} {w:Int} {n:Nat}:sameU bs t w (n+1)=(sameU bs t w n && (says bs n t == says bs (add n w) t)):=rall_succ n
def C327:List AV→(AV→Prop)→Prop:=con (X:=House × List Mark) (fun x=>[enH x.1,slM x.2]) (fun x=>termI x.1 x.2) fun x K=>K (.int .i64 (if termOk x.1 x.2 then idleF x.1.bs x.2 (pw x.1.p).toNat x.1.p.toNat else -1))
theorem F327:FF 106 C327:=by
 refine fitE [(127,C33),(147,C36)] (by simp only [List.mem_cons,List.not_mem_nil,or_false]; rintro _ (rfl|rfl) <;> first|exact F33|exact F36) Tryz.f106 ⟨rfl,by decide +kernel,by decide +kernel⟩ (fun _ _ _ hk h=>hk _ h) ?_
 rintro ⟨⟨p,bs⟩,t⟩ K hI h
 refine ⟨Nat.le_of_ble_eq_true rfl,?_⟩
 dsimp only [enH] at h hI ⊢
 repeat' (first|refine vz ?_|(conv=>whnf); first|with_reducible first|refine Sp.mk ?_ ?_|refine br_d (fun _=>?_) fun _=>?_|refine vM (fun _=>?_) fun _=>?_)
 refine ⟨(⟨p,bs⟩,t),?_,⟨hI⟩,?_⟩
 ·exact wq
 repeat' (first|refine vz ?_|(conv=>whnf); first|with_reducible first|refine Sp.mk ?_ ?_|refine br_d (fun _=>?_) fun _=>?_|refine vM (fun _=>?_) fun _=>?_)
 ·rename_i hO
  have hO':termOk ⟨p,bs⟩ t:=hO
  have pp:people p:=hO'.1.1
  have hp:=pw_le pp
  have hp1:=pp.1
  have hp6:=pp.2
  rw [if_pos hO'] at h
  refine Lp.mk ⟨Nat,fun i=>[(1,slM t),(2,.ptr 0 0),(5,.int .i64 (idleF bs t (pw p).toNat i)),(6,.int .i64 i)],
   fun _=>[.box [.int .i64 p,slI bs]],fun i=>i≤p.toNat,fun i=>p.toNat-i,⟨0,Nat.zero_le _,⟨⟨[some 0],[],rfl,rfl,?_,?_⟩⟩⟩,?_⟩
  ·exact wq
  ·exact wq
  intro i i1
  dsimp only
  have hl:=idle_lt bs t (pw p).toNat i (by omega)
  repeat' (first|refine vz ?_|(conv=>whnf); first|with_reducible first|refine Sp.mk ?_ ?_|refine br_d (fun _=>?_) fun _=>?_|refine vM (fun _=>?_) fun _=>?_)
  ·rename_i hi
   refine Lp.mk ⟨Nat,fun j=>[(1,slM t),(2,.ptr 0 0),(5,.int .i64 (idleF bs t (pw p).toNat i)),(6,.int .i64 i),(7,.bool (sameU bs t i j)),(8,.int .i64 j)],
    fun _=>[.box [.int .i64 p,slI bs]],fun j=>j≤(pw p).toNat,fun j=>(pw p).toNat-j,⟨0,Nat.zero_le _,⟨⟨[some 0],[],rfl,rfl,?_,?_⟩⟩⟩,?_⟩
   ·exact wq
   ·exact wq
   intro j j1
   dsimp only
   repeat' (first|refine vz ?_|(conv=>whnf); first|with_reducible refine Wr.ex (wsh pp) ?_|with_reducible refine Wr.ex (wshw (by omega) (by omega)) ?_|with_reducible first|refine Sp.mk ?_ ?_|refine br_d (fun _=>?_) fun _=>?_|refine vM (fun _=>?_) fun _=>?_)
   ·rename_i hj
    rw [pw_sh pp] at hj
    have ga:=add_lt (c:=(j:Int)) (w:=(i:Int)) (by omega) (by omega) (by omega) (by omega)
    have e:=sameU_succ (bs:=bs) (t:=t) (w:=(i:Int)) (n:=j)
    refine Dr.mk ⟨(.rd 0 (.rd 1 (.rd 2 (.rd 3 (.rd 4 (.rd 6 (.rd 7 (.rd 8 (.rd 9 (.rd 10 (.rd 11 (.ef 5 (.ef 12 (.rd 13 (.rd 14 (.rd 15 .dn))) .no) .no)))))))))))),by decide +kernel,?_⟩
    repeat' (first|refine vz ?_|(conv=>whnf); first|with_reducible refine Wr.ex (wshw (by omega) (by omega)) ?_|with_reducible first|refine Sp.mk ?_ ?_|refine br_d (fun _=>?_) fun _=>?_|refine vM (fun _=>?_) fun _=>?_)
    ·rename_i hs
     rw [hs,Bool.true_and] at e
     refine ⟨⟨p,bs,t,j⟩,?_,⟨sayOk_of hO' _ (by omega) (by omega)⟩,?_⟩
     ·exact wq
     dsimp only
     repeat' (first|refine vz ?_|(conv=>whnf); first|with_reducible refine Wr.ex (wshw (by omega) (by omega)) ?_|with_reducible first|refine Sp.mk ?_ ?_|refine br_d (fun _=>?_) fun _=>?_|refine vM (fun _=>?_) fun _=>?_)
     refine ⟨⟨p,bs,t,add j i⟩,?_,⟨sayOk_of hO' _ ga.1 ga.2⟩,?_⟩
     ·exact wq
     dsimp only
     repeat' (first|refine vz ?_|(conv=>whnf); first|with_reducible first|refine Sp.mk ?_ ?_|refine br_d (fun _=>?_) fun _=>?_|refine vM (fun _=>?_) fun _=>?_)
     refine ⟨j+1,by show j+1≤(pw p).toNat; omega,by show (pw p).toNat-(j+1)<(pw p).toNat-j; omega,⟨⟨[some 0],[],rfl,rfl,?_,?_⟩⟩⟩
     ·rw [e]
      repeat' ((conv=>whnf); first|with_reducible exact True.intro|exact vW|with_reducible refine And.intro ?_ ?_)
     ·exact wq
    ·rename_i hs
     rw [hs,Bool.false_and] at e
     refine ⟨j+1,by show j+1≤(pw p).toNat; omega,by show (pw p).toNat-(j+1)<(pw p).toNat-j; omega,⟨⟨[some 0],[],rfl,rfl,?_,?_⟩⟩⟩
     ·rw [e]
      rw [hs]
      repeat' ((conv=>whnf); first|with_reducible exact True.intro|exact vW|with_reducible refine And.intro ?_ ?_)
     ·exact wq
   ·rename_i hj hs
    rw [pw_sh pp] at hj
    rw [show j=(pw p).toNat by omega,same_idle hO' (w:=i) (by omega)] at hs
    have hs':=of_decide_eq_true hs
    refine ⟨i+1,by show i+1≤p.toNat; omega,by show p.toNat-(i+1)<p.toNat-i; omega,⟨⟨[some 0],[],rfl,rfl,?_,?_⟩⟩⟩
    ·repeat' ((conv=>whnf); first|with_reducible exact True.intro|exact vW|with_reducible refine And.intro ?_ ?_)
     all_goals exact Chk.mk (by rw [idleF,if_pos hs']; rfl)
    ·exact wq
   ·rename_i hj hs
    rw [pw_sh pp] at hj
    rw [show j=(pw p).toNat by omega,same_idle hO' (w:=i) (by omega)] at hs
    have hs':=of_decide_eq_false hs
    refine ⟨i+1,by show i+1≤p.toNat; omega,by show p.toNat-(i+1)<p.toNat-i; omega,⟨⟨[some 0],[],rfl,rfl,?_,?_⟩⟩⟩
    ·repeat' ((conv=>whnf); first|with_reducible exact True.intro|exact vW|with_reducible refine And.intro ?_ ?_)
     all_goals exact Chk.mk (by rw [idleF,if_neg hs'])
    ·exact wq
  ·rw [show i=p.toNat by omega]
   exact h
 ·rename_i hO
  rw [if_neg (show ¬ termOk ⟨p,bs⟩ t from hO)] at h
  exact h
open Classical in
def C329:List AV→(AV→Prop)→Prop:=con (X:=House × List Mark) (fun x=>[enH x.1,slM x.2]) (fun x=>termI x.1 x.2) fun x K=>K (.bool (decide (termOk x.1 x.2) && decB x.1.p x.1.bs x.2 (pw x.1.p).toNat))
theorem F329:FF 110 C329:=by
 refine fitE [(127,C33),(147,C36)] (by simp only [List.mem_cons,List.not_mem_nil,or_false]; rintro _ (rfl|rfl) <;> first|exact F33|exact F36) Tryz.f110 ⟨rfl,by decide +kernel,by decide +kernel⟩ (fun _ _ _ hk h=>hk _ h) ?_
 rintro ⟨⟨p,bs⟩,t⟩ K hI h
 refine ⟨Nat.le_of_ble_eq_true rfl,?_⟩
 dsimp only [enH] at h hI ⊢
 repeat' (first|refine vz ?_|(conv=>whnf); first|with_reducible first|refine Sp.mk ?_ ?_|refine br_d (fun _=>?_) fun _=>?_|refine vM (fun _=>?_) fun _=>?_)
 refine Lp.mk ⟨Nat,fun i=>[(1,slM t),(2,.ptr 0 0),(5,.int .i64 i)],
  fun _=>[.box [.int .i64 p,slI bs]],fun i=>i≤(pw p).toNat∧decB p bs t i=true,fun i=>(pw p).toNat-i,⟨0,⟨Nat.zero_le _,rfl⟩,⟨⟨[some 0],[],rfl,rfl,?_,?_⟩⟩⟩,?_⟩
 ·exact wq
 ·exact wq
 rintro i ⟨i1,i2⟩
 dsimp only
 repeat' (first|refine vz ?_|(conv=>whnf); first|with_reducible first|refine Sp.mk ?_ ?_|refine br_d (fun _=>?_) fun _=>?_|refine vM (fun _=>?_) fun _=>?_)
 refine ⟨(⟨p,bs⟩,t),?_,⟨hI⟩,?_⟩
 ·exact wq
 by_cases hO:termOk ⟨p,bs⟩ t
 ·have pp:people p:=hO.1.1
  have hp:=pw_le pp
  have hp1:=pp.1
  have hp6:=pp.2
  dsimp only
  rw [decide_eq_true hO]
  rw [decide_eq_true hO,Bool.true_and] at h
  repeat' (first|refine vz ?_|(conv=>whnf); first|with_reducible refine Wr.ex (wsh pp) ?_|with_reducible first|refine Sp.mk ?_ ?_|refine br_d (fun _=>?_) fun _=>?_|refine vM (fun _=>?_) fun _=>?_)
  ·rename_i hi
   rw [pw_sh pp] at hi
   have hx:=xor_all pp (c:=i) (by omega)
   have ds:=decB_succ (p:=p) (bs:=bs) (t:=t) (n:=i)
   rw [i2,Bool.true_and] at ds
   refine Dr.mk ⟨(.rd 0 (.rd 1 (.rd 2 (.rd 4 (.rd 5 (.rd 6 (.rd 7 (.rd 8 (.rd 9 (.rd 10 (.rd 11 (.ef 3 (.ef 12 (.rd 13 .dn) .no) .no)))))))))))),by decide +kernel,?_⟩
   repeat' (first|refine vz ?_|(conv=>whnf); first|with_reducible refine Wr.ex (wsh pp) ?_|with_reducible refine Wr.ex (wi64 (by rw [pw_sh pp]; omega) (by rw [pw_sh pp]; omega)) ?_|with_reducible first|refine Sp.mk ?_ ?_|refine br_d (fun _=>?_) fun _=>?_|refine vM (fun _=>?_) fun _=>?_)
   refine ⟨⟨p,bs,t,i⟩,?_,⟨sayOk_of hO _ (by omega) (by omega)⟩,?_⟩
   ·exact wq
   dsimp only
   repeat' (first|refine vz ?_|(conv=>whnf); first|with_reducible refine Wr.ex (wsh pp) ?_|with_reducible refine Wr.ex (wi64 (by rw [pw_sh pp]; omega) (by rw [pw_sh pp]; omega)) ?_|with_reducible first|refine Sp.mk ?_ ?_|refine br_d (fun _=>?_) fun _=>?_|refine vM (fun _=>?_) fun _=>?_)
   refine ⟨⟨p,bs,t,full p-i⟩,?_,⟨sayOk_of hO _ hx.2.1 hx.2.2⟩,?_⟩
   ·repeat' ((conv=>whnf); first|with_reducible exact True.intro|exact vW|with_reducible refine And.intro ?_ ?_)
    all_goals exact Chk.mk (by rw [pw_sh pp]; rfl)
   dsimp only
   repeat' (first|refine vz ?_|(conv=>whnf); first|with_reducible first|refine Sp.mk ?_ ?_|refine br_d (fun _=>?_) fun _=>?_|refine vM (fun _=>?_) fun _=>?_)
   ·rename_i hv
    have e:decB p bs t (i+1)=false:=by rw [ds,hv]; simp
    rw [decB_le (by omega) e] at h
    exact h
   ·rename_i hv
    have e:decB p bs t (i+1)=true:=by rw [ds]; simpa using hv
    refine ⟨i+1,⟨by show i+1≤(pw p).toNat; omega,e⟩,by show (pw p).toNat-(i+1)<(pw p).toNat-i; omega,⟨⟨[some 0],[],rfl,rfl,?_,?_⟩⟩⟩
    ·exact wq
    ·exact wq
  ·rename_i hi
   rw [pw_sh pp] at hi
   rw [show (pw p).toNat=i by omega,i2] at h
   repeat' (first|refine vz ?_|(conv=>whnf); first|with_reducible first|refine Sp.mk ?_ ?_|refine br_d (fun _=>?_) fun _=>?_|refine vM (fun _=>?_) fun _=>?_)
   refine ⟨(⟨p,bs⟩,t),?_,⟨hI⟩,?_⟩
   ·exact wq
   dsimp only
   rw [decide_eq_true hO]
   repeat' (first|refine vz ?_|(conv=>whnf); first|with_reducible first|refine Sp.mk ?_ ?_|refine br_d (fun _=>?_) fun _=>?_|refine vM (fun _=>?_) fun _=>?_)
   exact h
 ·dsimp only
  rw [decide_eq_false hO]
  rw [decide_eq_false hO,Bool.false_and] at h
  repeat' (first|refine vz ?_|(conv=>whnf); first|with_reducible first|refine Sp.mk ?_ ?_|refine br_d (fun _=>?_) fun _=>?_|refine vM (fun _=>?_) fun _=>?_)
  refine ⟨(⟨p,bs⟩,t),?_,⟨hI⟩,?_⟩
  ·exact wq
  dsimp only
  rw [decide_eq_false hO]
  repeat' (first|refine vz ?_|(conv=>whnf); first|with_reducible first|refine Sp.mk ?_ ?_|refine br_d (fun _=>?_) fun _=>?_|refine vM (fun _=>?_) fun _=>?_)
  exact h
open Classical in
def C330:List AV→(AV→Prop)→Prop:=con (X:=House × List Mark) (fun x=>[enH x.1,slM x.2]) (fun x=>termI x.1 x.2) fun x K=>K (.bool (decide (termOk x.1 x.2) && claB x.1.p x.1.bs x.2 (pw x.1.p).toNat))
theorem F330:FF 111 C330:=by
 refine fitE [(127,C33),(147,C36)] (by simp only [List.mem_cons,List.not_mem_nil,or_false]; rintro _ (rfl|rfl) <;> first|exact F33|exact F36) Tryz.f111 ⟨rfl,by decide +kernel,by decide +kernel⟩ (fun _ _ _ hk h=>hk _ h) ?_
 rintro ⟨⟨p,bs⟩,t⟩ K hI h
 refine ⟨Nat.le_of_ble_eq_true rfl,?_⟩
 dsimp only [enH] at h hI ⊢
 repeat' (first|refine vz ?_|(conv=>whnf); first|with_reducible first|refine Sp.mk ?_ ?_|refine br_d (fun _=>?_) fun _=>?_|refine vM (fun _=>?_) fun _=>?_)
 refine Lp.mk ⟨Nat,fun i=>[(1,slM t),(2,.ptr 0 0),(5,.int .i64 i)],
  fun _=>[.box [.int .i64 p,slI bs]],fun i=>i≤(pw p).toNat∧claB p bs t i=false,fun i=>(pw p).toNat-i,⟨0,⟨Nat.zero_le _,rfl⟩,⟨⟨[some 0],[],rfl,rfl,?_,?_⟩⟩⟩,?_⟩
 ·exact wq
 ·exact wq
 rintro i ⟨i1,i2⟩
 dsimp only
 repeat' (first|refine vz ?_|(conv=>whnf); first|with_reducible first|refine Sp.mk ?_ ?_|refine br_d (fun _=>?_) fun _=>?_|refine vM (fun _=>?_) fun _=>?_)
 refine ⟨(⟨p,bs⟩,t),?_,⟨hI⟩,?_⟩
 ·exact wq
 by_cases hO:termOk ⟨p,bs⟩ t
 ·have pp:people p:=hO.1.1
  have hp:=pw_le pp
  have hp1:=pp.1
  have hp6:=pp.2
  dsimp only
  rw [decide_eq_true hO]
  rw [decide_eq_true hO,Bool.true_and] at h
  repeat' (first|refine vz ?_|(conv=>whnf); first|with_reducible refine Wr.ex (wsh pp) ?_|with_reducible first|refine Sp.mk ?_ ?_|refine br_d (fun _=>?_) fun _=>?_|refine vM (fun _=>?_) fun _=>?_)
  ·rename_i hi
   rw [pw_sh pp] at hi
   have hx:=xor_all pp (c:=i) (by omega)
   have ds:=claB_succ (p:=p) (bs:=bs) (t:=t) (n:=i)
   rw [i2,Bool.false_or] at ds
   refine Dr.mk ⟨(.rd 0 (.rd 1 (.rd 2 (.ef 3 (.rd 4 (.rd 5 (.rd 6 (.rd 7 (.rd 8 (.rd 9 (.rd 10 (.rd 11 (.rd 12 (.ef 13 (.rd 14 .dn) .no)))))))))) .no)))),by decide +kernel,?_⟩
   repeat' (first|refine vz ?_|(conv=>whnf); first|with_reducible refine Wr.ex (wsh pp) ?_|with_reducible refine Wr.ex (wi64 (by rw [pw_sh pp]; omega) (by rw [pw_sh pp]; omega)) ?_|with_reducible first|refine Sp.mk ?_ ?_|refine br_d (fun _=>?_) fun _=>?_|refine vM (fun _=>?_) fun _=>?_)
   refine ⟨⟨p,bs,t,i⟩,?_,⟨sayOk_of hO _ (by omega) (by omega)⟩,?_⟩
   ·exact wq
   dsimp only
   repeat' (first|refine vz ?_|(conv=>whnf); first|with_reducible refine Wr.ex (wsh pp) ?_|with_reducible refine Wr.ex (wi64 (by rw [pw_sh pp]; omega) (by rw [pw_sh pp]; omega)) ?_|with_reducible first|refine Sp.mk ?_ ?_|refine br_d (fun _=>?_) fun _=>?_|refine vM (fun _=>?_) fun _=>?_)
   ·rename_i hv
    rw [hv,Bool.true_and] at ds
    refine ⟨⟨p,bs,t,full p-i⟩,?_,⟨sayOk_of hO _ hx.2.1 hx.2.2⟩,?_⟩
    ·repeat' ((conv=>whnf); first|with_reducible exact True.intro|exact vW|with_reducible refine And.intro ?_ ?_)
     all_goals exact Chk.mk (by rw [pw_sh pp]; rfl)
    dsimp only
    repeat' (first|refine vz ?_|(conv=>whnf); first|with_reducible first|refine Sp.mk ?_ ?_|refine br_d (fun _=>?_) fun _=>?_|refine vM (fun _=>?_) fun _=>?_)
    ·rename_i hv2
     rw [hv2] at ds
     rw [claB_le (by omega) ds] at h
     exact h
    ·rename_i hv2
     rw [hv2] at ds
     refine ⟨i+1,⟨by show i+1≤(pw p).toNat; omega,ds⟩,by show (pw p).toNat-(i+1)<(pw p).toNat-i; omega,⟨⟨[some 0],[],rfl,rfl,?_,?_⟩⟩⟩
     ·exact wq
     ·exact wq
   ·rename_i hv
    rw [hv,Bool.false_and] at ds
    refine ⟨i+1,⟨by show i+1≤(pw p).toNat; omega,ds⟩,by show (pw p).toNat-(i+1)<(pw p).toNat-i; omega,⟨⟨[some 0],[],rfl,rfl,?_,?_⟩⟩⟩
    ·exact wq
    ·exact wq
  ·rename_i hi
   rw [pw_sh pp] at hi
   rw [show (pw p).toNat=i by omega,i2] at h
   repeat' (first|refine vz ?_|(conv=>whnf); first|with_reducible first|refine Sp.mk ?_ ?_|refine br_d (fun _=>?_) fun _=>?_|refine vM (fun _=>?_) fun _=>?_)
   exact h
 ·dsimp only
  rw [decide_eq_false hO]
  rw [decide_eq_false hO,Bool.false_and] at h
  repeat' (first|refine vz ?_|(conv=>whnf); first|with_reducible first|refine Sp.mk ?_ ?_|refine br_d (fun _=>?_) fun _=>?_|refine vM (fun _=>?_) fun _=>?_)
  exact h
end Go.Proofs.YtapeebjjljohdaaGreatDoor.Vc
end
section
/- Part UA: texts that are cut, and numbers that are read. -/
namespace Go.Proofs.YtapeebjjljohdaaGreatDoor.Vc
open Go.Proofs
set_option maxRecDepth 10000
/-! ### Numbers -/
def digB (b:UInt8):Prop:=48≤b.toNat∧b.toNat≤57
def valL (a:Nat):List UInt8→Nat
 |[]=>a
 |b :: l=>valL (a*10+(b.toNat-48)) l
theorem valL_app:∀ (l m:List UInt8) (a:Nat),valL a (l ++ m)=valL (valL a l) m
 |[],_,_=>rfl
 |_ :: l,m,_=>valL_app l m _
theorem valL_ge:∀ (l:List UInt8) (a:Nat),a≤valL a l
 |[],_=>Nat.le_refl _
 |_ :: l,a=>Nat.le_trans (by omega) (valL_ge l _)
theorem dig_toNat {k:Nat} (h:k<10):(UInt8.ofNat (48+k)).toNat=48+k:=by
 rw [UInt8.toNat_ofNat']
 exact Nat.mod_eq_of_lt (by omega)
theorem dec_val (n:Nat):valL 0 (Lib.decDigits n)=n:=by
 induction n using Nat.strongRecOn with
 |_ n ih =>
  rw [Lib.decDigits]
  split
  ·rename_i h
   show 0*10+((UInt8.ofNat (48+n)).toNat-48)=n
   rw [dig_toNat h]
   omega
  ·rename_i h
   rw [valL_app,ih (n / 10) (by omega)]
   show n / 10*10+((UInt8.ofNat (48+n % 10)).toNat-48)=n
   rw [dig_toNat (by omega)]
   omega
theorem dec_dig (n:Nat):∀ b∈Lib.decDigits n,digB b:=by
 induction n using Nat.strongRecOn with
 |_ n ih =>
  rw [Lib.decDigits]
  split
  ·rename_i h
   intro b hb
   rw [List.mem_singleton.1 hb]
   unfold digB
   rw [dig_toNat h]
   omega
  ·rename_i h
   intro b hb
   rcases List.mem_append.1 hb with hb|hb
   ·exact ih _ (by omega) b hb
   ·rw [List.mem_singleton.1 hb]
    unfold digB
    rw [dig_toNat (by omega)]
    omega
theorem dec_pos (n:Nat):1≤(Lib.decDigits n).length:=by
 rw [Lib.decDigits]
 split
 ·exact Nat.le_refl _
 ·rw [List.length_append]; exact Nat.le_add_left _ _
theorem dec_len6 {n:Nat} (h:n<1000000):(Lib.decDigits n).length≤6:=by
 have key:∀ k n,n<10 ^ (k+1)→(Lib.decDigits n).length≤k+1:=by
  intro k
  induction k with
  |zero=>intro n h; rw [Lib.decDigits,dif_pos (by simpa using h)]; exact Nat.le_refl _
  |succ k ih =>
   intro n h
   rw [Lib.decDigits]
   split
   ·show 1≤_; omega
   ·rw [List.length_append]
    have:=ih (n / 10) (by rw [Nat.pow_succ] at h; omega)
    show _+1≤_
    omega
 exact key 5 n (by simpa using h)
theorem dec_head (n:Nat):1≤n→(Lib.decDigits n).head?≠some 48:=by
 induction n using Nat.strongRecOn with
 |_ n ih =>
  intro h1
  rw [Lib.decDigits]
  split
  ·rename_i h
   intro e
   have e2:UInt8.ofNat (48+n)=48:=by simpa using e
   have:=congrArg UInt8.toNat e2
   rw [dig_toNat h] at this
   have h48:(48:UInt8).toNat=48:=rfl
   omega
  ·rename_i h
   have ih2:=ih (n / 10) (by omega) (by omega)
   have hp:=dec_pos (n / 10)
   intro e
   cases hl:Lib.decDigits (n / 10) with
   |nil=>rw [hl] at hp; simp at hp
   |cons c r=>rw [hl] at e ih2; exact ih2 (by simpa using e)
theorem num_list (n:Nat):(num (n:Int)).data.toList=Lib.decDigits n:=by
 show (Lib.decDigits (n:Int).toNat).toArray.toList=_
 rw [Int.toNat_natCast]
theorem num_val (n:Nat):valL 0 (num (n:Int)).data.toList=n:=by rw [num_list,dec_val]
theorem parse_dig:∀ (l:List UInt8) (a:Nat),(∀ b∈l,digB b)→valL a l<1844674407370955162→Lib.parseUint10 a l=.ok (valL a l)
 |[],_,_,_=>rfl
 |b :: l,a,hd,hv=>by
  have h1:=hd b List.mem_cons_self
  have h2:=valL_ge l (a*10+(b.toNat-48))
  have h3:valL a (b :: l)=valL (a*10+(b.toNat-48)) l:=rfl
  rw [h3] at hv
  rw [Lib.parseUint10,if_pos (show 48≤b.toNat∧b.toNat≤57 from h1),if_neg (by omega),if_neg (by omega),parse_dig l _ (fun c hc=>hd c (List.mem_cons_of_mem _ hc)) hv]
  rfl
theorem atoi_num {n:Nat} (h:n<1000000):Lib.atoiAll (num (n:Int)).data.toList=.ok (n:Int):=by
 rw [num_list]
 have hd:=dec_dig n
 have hv:=dec_val n
 have hp:=dec_pos n
 cases hl:Lib.decDigits n with
 |nil=>rw [hl] at hp; simp at hp
 |cons c r =>
  rw [hl] at hd hv
  have hc:=hd c List.mem_cons_self
  unfold digB at hc
  unfold Lib.atoiAll
  have e:Lib.parseMag (c :: r)=.ok n:=by
   unfold Lib.parseMag
   rw [if_neg (by simp),parse_dig _ _ hd (by rw [hv]; omega),hv]
  simp only
  rw [if_neg (by omega),e]
  simp only
  rw [if_neg (by omega),if_neg (by omega),if_neg (by omega)]
/-! ### Cutting -/
def headApp (x:List UInt8):List (List UInt8)→List (List UInt8)
 |y :: r=>(x ++ y) :: r
 |[]=>[x]
def cutL (c:UInt8):List UInt8→List (List UInt8)
 |[]=>[[]]
 |b :: l=>if b=c then [] :: cutL c l else headApp [b] (cutL c l)
theorem headApp_app (x y:List UInt8):∀ L,headApp x (headApp y L)=headApp (x ++ y) L
 |[]=>rfl
 |z :: r=>by show (x ++ (y ++ z)) :: r=_; rw [← List.append_assoc]; rfl
theorem headApp_nil {L:List (List UInt8)} (h:L≠[]):headApp [] L=L:=by cases L with|nil=>exact absurd rfl h|cons=>rfl
theorem cutL_ne (c:UInt8) (l:List UInt8):cutL c l≠[]:=by
 cases l with
 |nil=>exact List.cons_ne_nil _ _
 |cons b l =>
  unfold cutL
  split
  ·exact List.cons_ne_nil _ _
  ·cases cutL c l <;> exact List.cons_ne_nil _ _
theorem cutL_none {c:UInt8}:∀ {x:List UInt8},c ∉ x→cutL c x=[x]
 |[],_=>rfl
 |b :: x,h=>by
  unfold cutL
  rw [if_neg (fun e:b=c=>h (e ▸ List.mem_cons_self)),cutL_none fun q=>h (List.mem_cons_of_mem _ q)]
  rfl
theorem cutL_hit {c:UInt8} {r:List UInt8}:∀ {x:List UInt8},c ∉ x→cutL c (x ++ c :: r)=x :: cutL c r
 |[],_=>by show (if c=c then _ else _)=_; rw [if_pos rfl]
 |b :: x,h=>by
  show (if b=c then _ else headApp [b] (cutL c (x ++ c :: r)))=_
  rw [if_neg (fun e:b=c=>h (e ▸ List.mem_cons_self)),cutL_hit fun q=>h (List.mem_cons_of_mem _ q)]
  rfl
theorem index_none {c:UInt8}:∀ {x:List UInt8},c ∉ x→Lib.index x [c]=-1
 |[],_=>rfl
 |b :: x,h=>by
  have e1:c≠b:=fun e=>h (e ▸ List.mem_cons_self)
  have hp:([c]:List UInt8).isPrefixOf (b :: x)=false:=by simp [List.isPrefixOf,e1]
  rw [Lib.index,hp,index_none fun q=>h (List.mem_cons_of_mem _ q)]
  rfl
theorem index_hit {c:UInt8} {r:List UInt8}:∀ {x:List UInt8},c ∉ x→Lib.index (x ++ c :: r) [c]=(x.length:Int)
 |[],_=>by
  show Lib.index (c :: r) [c]=0
  rw [Lib.index]
  simp [List.isPrefixOf]
 |b :: x,h=>by
  have e1:c≠b:=fun e=>h (e ▸ List.mem_cons_self)
  have hp:([c]:List UInt8).isPrefixOf (b :: (x ++ c :: r))=false:=by simp [List.isPrefixOf,e1]
  rw [List.cons_append,Lib.index,hp,index_hit fun q=>h (List.mem_cons_of_mem _ q)]
  have:¬ (((x.length:Int) == -1)=true):=fun e=>by have:=beq_iff_eq.1 e; omega
  simp only [Bool.false_eq_true,if_false]
  rw [if_neg this,List.length_cons]
  omega
theorem first_occ {c:UInt8}:∀ {l:List UInt8},c∈l→∃ x r,l=x ++ c :: r∧c ∉ x
 |b :: l,h=>by
  by_cases e:c=b
  ·exact ⟨[],l,by rw [e]; rfl,fun q=>by cases q⟩
  ·obtain ⟨x,r,e1,e2⟩:=first_occ ((List.mem_cons.1 h).resolve_left e)
   exact ⟨b :: x,r,by rw [e1]; rfl,fun q=>(List.mem_cons.1 q).elim e e2⟩
theorem split_cut (c:UInt8):∀ (n:Nat) (l:List UInt8),l.length≤n→Lib.splitK [c] 0 (Lib.count l [c]) l=cutL c l
 |n,l,hn=>by
  by_cases h:c∈l
  ·obtain ⟨x,r,rfl,hx⟩:=first_occ h
   have hi:=index_hit (r:=r) hx
   have e1:(x ++ c :: r).drop (x.length+1)=r:=by
    rw [List.drop_append,List.drop_of_length_le (by omega),show x.length+1-x.length=1 by omega]
    rfl
   have hc:Lib.count (x ++ c :: r) [c]=Lib.count r [c]+1:=by
    rw [Lib.count_hit (by simp) hi,show ([c]:List UInt8).length=1 from rfl,e1,Nat.add_comm]
   have hm:¬ (Lib.index (x ++ c :: r) [c] == -1)=true:=fun e=>by have:=beq_iff_eq.1 e; omega
   rw [hc,Lib.splitK,if_neg hm,hi,Int.toNat_natCast,Nat.add_zero,List.take_left,show ([c]:List UInt8).length=1 from rfl,e1,cutL_hit hx]
   cases n with
   |zero=>simp at hn
   |succ n=>rw [split_cut c n r (by simp at hn; omega)]
  ·rw [Lib.count_miss (index_none h),cutL_none h]
   rfl
def cutB (s:ByteArray) (c:UInt8):List ByteArray:=(cutL c s.data.toList).map fun l=>⟨l.toArray⟩
theorem splitB_cut (s:ByteArray) (c:UInt8):Lib.splitB ⟨#[c]⟩ 0 (Lib.countB s ⟨#[c]⟩) s=cutB s c:=by
 have h:=Lib.splitB_data ⟨#[c]⟩ 0 (Lib.countB s ⟨#[c]⟩) s
 have h2:Lib.splitK [c] 0 (Lib.countB s ⟨#[c]⟩) s.data.toList=cutL c s.data.toList:=split_cut c _ _ (Nat.le_refl _)
 have h3:(Lib.splitB ⟨#[c]⟩ 0 (Lib.countB s ⟨#[c]⟩) s).map (·.data.toList)=cutL c s.data.toList:=h.trans h2
 unfold cutB
 rw [← h3,List.map_map]
 exact (List.map_id _).symm
theorem headApp_len (x:List UInt8) {L:List (List UInt8)} (h:L≠[]):(headApp x L).length=L.length:=by cases L with|nil=>exact absurd rfl h|cons=>rfl
theorem cutL_len (c:UInt8):∀ l:List UInt8,1≤(cutL c l).length∧(cutL c l).length≤l.length+1
 |[]=>⟨Nat.le_refl _,Nat.le_refl _⟩
 |b :: l=>by
  have ih:=cutL_len c l
  unfold cutL
  split
  ·simp only [List.length_cons]; omega
  ·rw [headApp_len _ (cutL_ne c l)]; simp only [List.length_cons]; omega
theorem cutL_mem (c:UInt8):∀ (l:List UInt8),∀ x∈cutL c l,x.length≤l.length
 |[],x,h=>by rw [List.mem_singleton.1 h]; exact Nat.le_refl _
 |b :: l,x,h=>by
  have ih:=cutL_mem c l
  unfold cutL at h
  split at h
  ·rcases List.mem_cons.1 h with rfl|h
   ·exact Nat.zero_le _
   ·exact Nat.le_trans (ih x h) (Nat.le_succ _)
  ·cases e:cutL c l with
   |nil=>exact absurd e (cutL_ne c l)
   |cons y r =>
    rw [e] at h ih
    rcases List.mem_cons.1 h with rfl|h
    ·have:=ih y List.mem_cons_self
     simp only [List.length_append,List.length_cons,List.length_nil]; omega
    ·exact Nat.le_trans (ih x (List.mem_cons_of_mem _ h)) (Nat.le_succ _)
theorem cutB_len (s:ByteArray) (c:UInt8):1≤(cutB s c).length∧(cutB s c).length≤s.size+1:=by
 unfold cutB
 rw [List.length_map]
 exact cutL_len c _
theorem cutB_mem {s:ByteArray} {c:UInt8} {x:ByteArray} (h:x∈cutB s c):x.size≤s.size:=by
 obtain ⟨l,hl,rfl⟩:=List.mem_map.1 h
 exact cutL_mem c _ l hl
theorem join_cut (c:UInt8):∀ {xs:List (List UInt8)},xs≠[]→(∀ x∈xs,c ∉ x)→cutL c (Lib.join xs [c])=xs
 |[],h,_=>absurd rfl h
 |[x],_,h=>by rw [Lib.join_one,cutL_none (h x List.mem_cons_self)]
 |x :: y :: r,_,h=>by
  have e:Lib.join (x :: y :: r) [c]=x ++ c :: Lib.join (y :: r) [c]:=by
   unfold Lib.join List.intercalate
   rw [List.intersperse_cons_cons,List.flatten_cons,List.flatten_cons]
   rfl
  rw [e,cutL_hit (h x List.mem_cons_self),join_cut c (List.cons_ne_nil _ _) fun z hz=>h z (List.mem_cons_of_mem _ hz)]
theorem joinB_cut {c:UInt8} {xs:List ByteArray} (h:xs≠[]) (hc:∀ x∈xs,c ∉ x.data.toList):cutB (joinB xs ⟨#[c]⟩) c=xs:=by
 have e:cutL c (Lib.join (xs.map (·.data.toList)) [c])=xs.map (·.data.toList):=join_cut c (fun e=>h (List.map_eq_nil_iff.1 e)) fun x hx=>by
  obtain ⟨y,hy,rfl⟩:=List.mem_map.1 hx
  exact hc y hy
 show (cutL c (Lib.join (xs.map (·.data.toList)) [c])).map _=_
 rw [e,List.map_map]
 exact List.map_id _
end Go.Proofs.YtapeebjjljohdaaGreatDoor.Vc
end
section
/- Part UB: strings.Split, strconv.Atoi, and what reads by them. -/
namespace Go.Proofs.YtapeebjjljohdaaGreatDoor.Vc
open Go.Proofs Go.RowKit Go.Sort
set_option maxRecDepth 10000
set_option maxHeartbeats 4000000
def C211:List AV→(AV→Prop)→Prop:=con (X:=ByteArray × UInt8) (fun x=>[.str x.1,.str ⟨#[x.2]⟩]) (fun x=>x.1.size<4294967281) fun x K=>K (slS (cutB x.1 x.2))
theorem F211:FF 85 C211:=fun Gl hG=>by
 refine ⟨FnOk.has ⟨rfl,by decide +kernel,by decide +kernel⟩ (fn:=Tryz.f85),fun us K K' hk ⟨x,h1,h2,h3⟩=>⟨x,h1,h2,hk _ h3⟩,?_⟩
 rintro us K ⟨⟨s,c⟩,h1,⟨h2⟩,h3⟩ R w xs hL hA
 obtain ⟨g1,g2⟩:=exL_PV (R:=R) (w:=w) us _ h1
 have hA':ArgsV R w [.str s,.str ⟨#[c]⟩] xs:=⟨hA.1.trans g1,fun j hj=>g2 j (g1 ▸ hj) _ (hA.2 j (g1 ▸ hj))⟩
 obtain rfl:=args_pl rfl hA'
 have hw:=(hG w fun p hp=>(hL.gl p hp).2).len
 obtain ⟨cs, hv, m, rfl⟩ := hw.resolve_left (by intro e; have : Tryz.prog.globalNamed "internal/bytealg.MaxLen" = none := e; revert this; decide +kernel)
 refine (Tryz.strings_Split s ⟨#[c]⟩ m w h2 ((World.var?_cell (P:=Tryz.prog) (by kernel_rfl) hv 0).trans rfl) (Nat.le_refl _)).mono fun e w' he=>?_
 obtain ⟨rfl,rfl⟩:=he
 have hlen:Lib.countB s ⟨#[c]⟩+1=(cutB s c).length:=by rw [← splitB_cut,Lib.splitB_all _ (Nat.le_refl _) 0 _ s rfl]
 rw [splitB_cut,hlen]
 refine ⟨_,_,fun b=>R b∨b=w.heap.size,rfl,h3,.data (.sl 1 _ _ _ _ (fun i _=>.string ((cutB s c).getD i ⟨#[]⟩)) (Nat.le_refl _) (.inr rfl) (fun i _=>rfl) (fun i hi j hj=>?_) fun i _ j hj=>?_),⟨?_,fun b h=>.inl h,fun b h=>h.imp id fun e=>by omega,?_,fun b hb=>?_,rfl,rfl,rfl⟩⟩
 ·obtain rfl:j=0:=by omega
  rw [Nat.mul_one,Nat.add_zero,addr_add,Nat.zero_add,World.cell?_alloc_new]
  rw [List.getElem?_toArray,List.getElem?_map,List.getElem?_eq_getElem hi,List.getD_eq_getElem?_getD,List.getElem?_eq_getElem hi]
  rfl
 ·obtain rfl:j=0:=by omega
  exact .str _
 ·rintro b (h|rfl)
  ·have:=hL.lt b h
   show b<(w.heap.push _).size
   rw [Array.size_push]
   omega
  ·show w.heap.size<(w.heap.push _).size
   rw [Array.size_push]
   exact Nat.lt_succ_self _
 ·show w.heap.size≤(w.heap.push _).size
  rw [Array.size_push]
  exact Nat.le_succ _
 ·show (w.heap.push _)[b]?=_
  rw [Array.getElem?_push,if_neg (by omega)]
def C212:List AV→(AV→Prop)→Prop:=con (X:=ByteArray) (fun s=>[.str s]) (fun s=>s.size≤281474976710656) fun s K=>∀ (v:Int) (e:AV),i64r v→e=.nili∨e=.ifc→(∀ n:Nat,n<1000000→s=num n→v=n∧e=.nili)→K (.tup [.int .i64 v,e])
theorem pair_pv {R:Nat→Prop} {w:World} {v:Int} {e:AV} {x:Value} (h:DR R w e x):PV R w (.tup [.int .i64 v,e]) (.tuple #[.int .i64 v,x]):=by
 refine .tup _ _ rfl fun j hj=>?_
 replace hj:j<2:=hj
 rcases (show j=0∨j=1 by omega) with rfl|rfl
 ·exact .data (.int _ _)
 ·exact .data h
theorem F212:FF 132 C212:=fun Gl hG=>by
 refine ⟨FnOk.has ⟨rfl,by decide +kernel,by decide +kernel⟩ (fn:=Tryz.f132),fun us K K' hk ⟨x,h1,h2,h3⟩=>⟨x,h1,h2,fun v e q1 q2 q3=>hk _ (h3 v e q1 q2 q3)⟩,?_⟩
 rintro us K ⟨s,h1,⟨h2⟩,h3⟩ R w xs hL hA
 obtain ⟨g1,g2⟩:=exL_PV (R:=R) (w:=w) us _ h1
 have hA':ArgsV R w [.str s] xs:=⟨hA.1.trans g1,fun j hj=>g2 j (g1 ▸ hj) _ (hA.2 j (g1 ▸ hj))⟩
 obtain rfl:=args_pl rfl hA'
 have hw:=hG w fun p hp=>(hL.gl p hp).2
 have hsyn : ∃ tp p, w.var? Tryz.prog "strconv.ErrSyntax" = some #[.iface tp p] := by
  obtain ⟨cs, hv, tp, p, rfl⟩ := hw.syn.resolve_left (by intro e; have : Tryz.prog.globalNamed "strconv.ErrSyntax" = none := e; revert this; decide +kernel)
  exact ⟨tp,p,hv⟩
 have hrng : ∃ tp p, w.var? Tryz.prog "strconv.ErrRange" = some #[.iface tp p] := by
  obtain ⟨cs, hv, tp, p, rfl⟩ := hw.rng.resolve_left (by intro e; have : Tryz.prog.globalNamed "strconv.ErrRange" = none := e; revert this; decide +kernel)
  exact ⟨tp,p,hv⟩
 have hnum:∀ n:Nat,n<1000000→s=num n→Lib.atoiAll s.data.toList=.ok (n:Int):=fun n hn e=>by rw [e]; exact atoi_num hn
 cases hr:Lib.atoiAll s.data.toList
 ·rename_i v
  obtain ⟨b1,b2⟩:=Lib.atoiAll_bounds hr
  refine (Tryz.strconv_Atoi_ok s (by omega) v hr w).mono fun e w' he=>?_
  obtain ⟨rfl,he⟩:=he
  have hbl:Below w.heap.size w w':=by
   rcases he with rfl|⟨t,rfl⟩
   ·exact ⟨rfl,rfl,rfl,Nat.le_refl _,fun _ _=>rfl⟩
   ·exact Go.Joins.below_bytesWorld _ _ _ _ (Nat.le_refl _)
  refine ⟨_,_,R,rfl,h3 v .nili ⟨by omega,by omega⟩ (.inl rfl) fun n hn e=>⟨?_,rfl⟩,pair_pv .nili,⟨fun b' hb'=>Nat.lt_of_lt_of_le (hL.lt b' hb') hbl.size,fun _ h=>h,fun _ h=>.inl h,hbl.size,fun b' hlt=>hbl.block b' hlt,hbl.os,hbl.tape,hbl.output⟩⟩
  have:=(hnum n hn e).symm.trans hr
  injection this with this
  exact this.symm
 ·obtain ⟨tp,p,hv⟩:=hsyn
  refine (Tryz.strconv_Atoi_syntax_var s h2 hr tp p w hv).mono fun e w' he=>?_
  obtain ⟨N,rfl,_,_,hbl⟩:=he
  exact ⟨_,_,R,rfl,h3 0 .ifc ⟨by decide,by decide⟩ (.inr rfl) (fun n hn e=>by have:=(hnum n hn e).symm.trans hr; cases this),pair_pv (.ifc _ _),⟨fun b' hb'=>Nat.lt_of_lt_of_le (hL.lt b' hb') hbl.size,fun _ h=>h,fun _ h=>.inl h,hbl.size,fun b' hlt=>hbl.block b' hlt,hbl.os,hbl.tape,hbl.output⟩⟩
 ·obtain ⟨tp,p,hv⟩:=hrng
  refine (Tryz.strconv_Atoi_range_var s h2 hr tp p w hv).mono fun e w' he=>?_
  obtain ⟨N,rfl,_,_,hbl⟩:=he
  exact ⟨_,_,R,rfl,h3 _ .ifc (by unfold Lib.atoiSat; split <;> exact ⟨by decide,by decide⟩) (.inr rfl) (fun n hn e=>by have:=(hnum n hn e).symm.trans hr; cases this),pair_pv (.ifc _ _),⟨fun b' hb'=>Nat.lt_of_lt_of_le (hL.lt b' hb') hbl.size,fun _ h=>h,fun _ h=>.inl h,hbl.size,fun b' hlt=>hbl.block b' hlt,hbl.os,hbl.tape,hbl.output⟩⟩
end Go.Proofs.YtapeebjjljohdaaGreatDoor.Vc
end
section
/- Part UC: numbers and cuts, by both sides. -/
namespace Go.Proofs.YtapeebjjljohdaaGreatDoor.Vc
open Go.Proofs
set_option maxRecDepth 10000
set_option maxHeartbeats 4000000
def isNum (s:ByteArray):Bool:=decide (valL 0 s.data.toList<1000000∧s=num (valL 0 s.data.toList:Nat))
theorem isNum_num {n:Nat} (h:n<1000000):isNum (num (n:Int))=true:=by
 unfold isNum
 rw [num_val]
 exact decide_eq_true ⟨h,rfl⟩
theorem isNum_of {s:ByteArray} (h:isNum s=true):∃ n:Nat,n<1000000∧s=num (n:Int):=⟨_,(of_decide_eq_true h).1,(of_decide_eq_true h).2⟩
theorem isNum_no {s:ByteArray} (h:¬ ∃ n:Nat,n<1000000∧s=num (n:Int)):isNum s=false:=by
 cases e:isNum s with
 |false=>rfl
 |true=>exact absurd (isNum_of e) h
def C213:List AV→(AV→Prop)→Prop:=con (X:=ByteArray) (fun s=>[.str s]) (fun s=>s.size≤281474976710656) fun s K=>∀ v:Int,i64r v→(∀ n:Nat,n<1000000→s=num n→v=n)→K (.tup [.int .i64 v,.bool (isNum s)])
theorem F213:FF 86 C213:=by
 refine fitX [(94,C101),(132,C212)] (by simp only [List.mem_cons,List.not_mem_nil,or_false]; rintro _ (rfl|rfl) <;> first|exact F101|exact F212) [] (by simp) Tryz.f86 ⟨rfl,by decide +kernel,by decide +kernel⟩ (fun _ _ _ hk h v q1 q2=>hk _ (h v q1 q2)) ?_
 rintro s K hs h
 refine ⟨Nat.le_of_ble_eq_true rfl,?_⟩
 repeat' (first|refine vz ?_|(conv=>whnf); first|with_reducible first|refine Sp.mk ?_ ?_|refine br_d (fun _=>?_) fun _=>?_|refine vM (fun _=>?_) fun _=>?_)
 refine ⟨s,?_,⟨hs⟩,?_⟩
 ·exact wq
 intro v e ⟨v1,v2⟩ he hn
 have hK:=h v ⟨v1,v2⟩ fun n q1 q2=>(hn n q1 q2).1
 rcases he with rfl|rfl
 ·repeat' (first|refine vz ?_|(conv=>whnf); first|with_reducible first|refine Sp.mk ?_ ?_|refine br_d (fun _=>?_) fun _=>?_|refine vM (fun _=>?_) fun _=>?_)
  ·rename_i g1 g2
   refine ⟨v,?_,⟨g1,by omega⟩,?_⟩
   ·exact wq
   have e0:isNum s=decide (num v=s):=by
    by_cases e:num v=s
    ·rw [decide_eq_true e,← e]
     obtain ⟨n,rfl⟩:∃ n:Nat,v=n:=⟨v.toNat,by omega⟩
     exact isNum_num (by omega)
    ·rw [decide_eq_false e]
     exact isNum_no fun ⟨n,q1,q2⟩=>e (by rw [(hn n q1 q2).1,q2])
   rw [e0] at hK
   repeat' (first|refine vz ?_|(conv=>whnf); first|with_reducible first|refine Sp.mk ?_ ?_|refine br_d (fun _=>?_) fun _=>?_|refine vM (fun _=>?_) fun _=>?_)
   exact hK
  all_goals
   have e0:isNum s=false:=isNum_no fun ⟨n,q1,q2⟩=>by have:=(hn n q1 q2).1; omega
   rw [e0] at hK
   exact hK
 ·have e0:isNum s=false:=isNum_no fun ⟨n,q1,q2⟩=>by cases (hn n q1 q2).2
  rw [e0] at hK
  repeat' (first|refine vz ?_|(conv=>whnf); first|with_reducible first|refine Sp.mk ?_ ?_|refine br_d (fun _=>?_) fun _=>?_|refine vM (fun _=>?_) fun _=>?_)
  exact hK
/-! ### The reference's cut -/
theorem ext_list {s:ByteArray} {j i:Nat}:(s.extract j i).data.toList=(s.data.toList.drop j).take (i-j):=by
 rw [ByteArray.data_extract,Array.toList_extract]
theorem drop_bt {s:ByteArray} {i:Nat} (h:i<s.size):∃ b:UInt8,bt s i=(b.toNat:Int)∧s.data.toList.drop i=b :: s.data.toList.drop (i+1):=by
 have h':i<s.data.toList.length:=by rw [Array.length_toList]; exact h
 refine ⟨s.data.toList[i],?_,List.drop_eq_getElem_cons h'⟩
 unfold bt
 rw [Array.getD_eq_getD_getElem?,Array.getElem?_eq_getElem (by exact h)]
 rfl
structure cutI (s:ByteArray) (c:UInt8) (P:List ByteArray) (i j:Nat):Prop where
 ji:j≤i
 le:i≤s.size
 len:P.length≤j
 cut:cutL c s.data.toList=P.map (·.data.toList) ++ headApp (s.extract j i).data.toList (cutL c (s.data.toList.drop i))
theorem cutI_0 (s:ByteArray) (c:UInt8):cutI s c [] 0 0:=⟨Nat.le_refl _,Nat.zero_le _,Nat.le_refl _,by
 rw [ext_list]
 exact (headApp_nil (cutL_ne c _)).symm⟩
theorem ext_snocL {s:ByteArray} {j i:Nat} {b:UInt8} (hji:j≤i) (h:s.data.toList.drop i=b :: s.data.toList.drop (i+1)):(s.extract j (i+1)).data.toList=(s.extract j i).data.toList ++ [b]:=by
 have e:(s.data.toList.drop j).drop (i-j)=b :: s.data.toList.drop (i+1):=by rw [List.drop_drop,show j+(i-j)=i by omega,h]
 rw [ext_list,ext_list,show i+1-j=(i-j)+1 by omega,List.take_add,e]
 rfl
theorem cutI_hit {s:ByteArray} {c:UInt8} {P:List ByteArray} {i j:Nat} (h:cutI s c P i j) (hi:i<s.size) (hb:bt s i=(c.toNat:Int)):cutI s c (P ++ [s.extract j i]) (i+1) (i+1):=by
 obtain ⟨b,e1,e2⟩:=drop_bt hi
 obtain rfl:b=c:=UInt8.toNat_inj.1 (by omega)
 refine ⟨Nat.le_refl _,hi,by rw [List.length_append]; have:=h.len; have:=h.ji; show _+1≤_; omega,?_⟩
 have e3:(s.extract (i+1) (i+1)).data.toList=[]:=by rw [ext_list,Nat.sub_self]; rfl
 rw [h.cut,e2,e3,headApp_nil (cutL_ne _ _),List.map_append,List.append_assoc]
 show _ ++ headApp _ (if b=b then _ else _)=_
 rw [if_pos rfl]
 show _ ++ ((_ ++ []) :: _)=_
 rw [List.append_nil]
 rfl
theorem cutI_miss {s:ByteArray} {c:UInt8} {P:List ByteArray} {i j:Nat} (h:cutI s c P i j) (hi:i<s.size) (hb:¬ bt s i=(c.toNat:Int)):cutI s c P (i+1) j:=by
 obtain ⟨b,e1,e2⟩:=drop_bt hi
 refine ⟨Nat.le_succ_of_le h.ji,hi,h.len,?_⟩
 rw [h.cut,e2,ext_snocL h.ji e2,← headApp_app]
 show _ ++ headApp _ (if b=c then _ else _)=_
 rw [if_neg fun e=>hb (by rw [e1,e])]
theorem cutI_end {s:ByteArray} {c:UInt8} {P:List ByteArray} {j:Nat} (h:cutI s c P s.size j):cutB s c=P ++ [s.extract j s.size]:=by
 unfold cutB
 rw [h.cut,show s.data.toList.drop s.size=[] from List.drop_of_length_le (by rw [Array.length_toList]; exact Nat.le_refl _)]
 show (_ ++ [_ ++ []]).map _=_
 rw [List.append_nil,List.map_append,List.map_map]
 exact congrArg (· ++ _) (List.map_id _)
theorem ext_pushW {α:Type} {enc:α→List AV} {d:α} {l:List α} {x:α} {g:Nat→List AV} (hg:g 0=enc x):l.length+1=(l ++ [x]).length∧∀ i,i<l.length+1→appF l.length (fun i=>enc (l.getD i d)) g (0+i)=enc ((l ++ [x]).getD i d):=by
 have h:=ext_push (enc:=enc) (d:=d) (l:=l) (x:=x) (g:=g) hg
 refine ⟨h.1.symm,fun i hi=>?_⟩
 rw [Nat.zero_add]
 exact (h.2 i (by rw [h.1]; exact hi)).symm
def C215:List AV→(AV→Prop)→Prop:=con (X:=ByteArray × UInt8) (fun x=>[.str x.1,.int .u8 (x.2.toNat:Int)]) (fun x=>x.1.size<4294967281) fun x K=>K (slS (cutB x.1 x.2))
theorem F215:FF 65 C215:=by
 refine fitXE [] (by simp) [] (by simp) Tryz.f65 ⟨rfl,by decide +kernel,by decide +kernel⟩ (by intro x K K2 hk h; (try dsimp only at h ⊢); intros; apply hk; first|exact h|(apply h <;> assumption)) ?_
 rintro ⟨s,c⟩ K hs h
 refine ⟨Nat.le_of_ble_eq_true rfl,?_⟩
 dsimp only at h hs ⊢
 have hc:=c.toNat_lt
 repeat' (first|refine vz ?_|(conv=>whnf); first|with_reducible first|refine Sp.mk ?_ ?_|refine br_d (fun _=>?_) fun _=>?_|refine vM (fun _=>?_) fun _=>?_)
 refine Lp.mk ⟨List ByteArray × Nat × Nat,fun x=>[(0,.str s),(1,.int .u8 (c.toNat:Int)),(5,.row 0 1 0 x.1.length),(6,.int .i64 x.2.2),(7,.int .i64 x.2.1)],fun x=>[.row 1 x.1.length fun k=>encS (x.1.getD k ⟨#[]⟩)],fun x=>cutI s c x.1 x.2.1 x.2.2,fun x=>s.size-x.2.1,⟨([],0,0),cutI_0 s c,⟨⟨[none],[],rfl,rfl,?_,?_⟩⟩⟩,?_⟩
 ·exact wq
 ·exact wq
 rintro ⟨P,i,j⟩ hI
 have i1:=hI.ji
 have i2:=hI.le
 have i3:=hI.len
 dsimp only at i1 i2 i3 hI ⊢
 repeat' (first|refine vz ?_|(conv=>whnf); first|with_reducible first|refine Sp.mk ?_ ?_|refine br_d (fun _=>?_) fun _=>?_|refine vM (fun _=>?_) fun _=>?_)
 ·rename_i q1 q2
  refine ⟨(P ++ [s.extract j i],i+1,i+1),cutI_hit hI (by omega) q2,by dsimp only; omega,⟨⟨[some 2],[],rfl,rfl,?_,?_⟩⟩⟩
  ·repeat' ((conv=>whnf); first|with_reducible exact True.intro|exact vW|with_reducible refine And.intro ?_ ?_)
   all_goals exact Chk.mk ⟨rfl,by rw [List.length_append]; rfl⟩
  ·repeat' ((conv=>whnf); first|with_reducible exact True.intro|exact vW|with_reducible refine And.intro ?_ ?_)
   all_goals exact Chk.mk (ext_push rfl)
 ·rename_i q1 q2
  refine ⟨(P,i+1,j),cutI_miss hI (by omega) q2,by dsimp only; omega,⟨⟨[some 0],[],rfl,rfl,?_,?_⟩⟩⟩
  ·exact wq
  ·exact wq
 ·rename_i q1
  obtain rfl:i=s.size:=by omega
  rw [cutI_end hI] at h
  refine ⟨_,?_,h⟩
  repeat' ((conv=>whnf); first|with_reducible exact True.intro|exact vW|with_reducible refine And.intro ?_ ?_)
  all_goals exact Chk.mk (ext_pushW rfl)
/-! ### The reference's digits -/
theorem take_bt {s:ByteArray} {i:Nat} (h:i<s.size):∃ b:UInt8,bt s i=(b.toNat:Int)∧b∈s.data.toList∧s.data.toList.take (i+1)=s.data.toList.take i ++ [b]:=by
 obtain ⟨b,e1,e2⟩:=drop_bt h
 have h':i<s.data.toList.length:=by rw [Array.length_toList]; exact h
 refine ⟨b,e1,?_,?_⟩
 ·have:b∈s.data.toList.drop i:=by rw [e2]; exact List.mem_cons_self
  exact List.mem_of_mem_drop this
 ·rw [List.take_add,e2]; rfl
theorem num_len {n:Nat} (h:n<1000000):1≤(num (n:Int)).size∧(num (n:Int)).size≤6:=by
 have e:(num (n:Int)).size=(Lib.decDigits n).length:=by rw [← num_list]; exact (Array.length_toList).symm
 rw [e]
 exact ⟨dec_pos n,dec_len6 h⟩
theorem num_0 {n:Nat} (h:1<(num (n:Int)).size):¬ bt (num (n:Int)) 0=48:=by
 obtain ⟨b,e1,e2⟩:=drop_bt (s:=num (n:Int)) (i:=0) (by omega)
 rw [List.drop_zero,num_list] at e2
 intro e
 have hb:b=48:=UInt8.toNat_inj.1 (by have:(48:UInt8).toNat=48:=rfl; omega)
 have h1:1≤n:=by
  rcases Nat.eq_zero_or_pos n with rfl|h1
  ·have:(num ((0:Nat):Int)).size=1:=by
    rw [show (num ((0:Nat):Int)).size=(Lib.decDigits 0).length by rw [← num_list]; exact (Array.length_toList).symm,Lib.decDigits]
    rfl
   omega
  ·exact h1
 exact dec_head n h1 (by rw [e2,hb]; rfl)
theorem val_step {s:ByteArray} {i:Nat} {b:UInt8} (h:s.data.toList.take (i+1)=s.data.toList.take i ++ [b]):valL 0 (s.data.toList.take (i+1))=valL 0 (s.data.toList.take i)*10+(b.toNat-48):=by rw [h,valL_app]; rfl
def C216:List AV→(AV→Prop)→Prop:=con (X:=ByteArray) (fun s=>[.str s]) (fun s=>s.size<9223372036854775808) fun s K=>∀ v:Int,i64r v→(∀ n:Nat,n<1000000→s=num n→v=n)→K (.int .i64 v)
theorem F216:FF 66 C216:=by
 refine fitX [(83,C35)] (by simp only [List.mem_cons,List.not_mem_nil,or_false]; rintro _ rfl <;> first|exact F35) [] (by simp) Tryz.f66 ⟨rfl,by decide +kernel,by decide +kernel⟩ (fun _ _ _ hk h v q1 q2=>hk _ (h v q1 q2)) ?_
 rintro s K hs h
 refine ⟨Nat.le_of_ble_eq_true rfl,?_⟩
 repeat' (first|refine vz ?_|(conv=>whnf); first|with_reducible first|refine Sp.mk ?_ ?_|refine br_d (fun _=>?_) fun _=>?_|refine vM (fun _=>?_) fun _=>?_)
 refine ⟨((s.size:Int),1,6),?_,⟨trivial⟩,?_⟩
 ·exact wq
 dsimp only
 have hno:(∀ n:Nat,n<1000000→s=num n→False)→K (.int .i64 (-1)):=fun hn=>h (-1) ⟨by decide,by decide⟩ fun n q1 q2=>(hn n q1 q2).elim
 apply later
 ·intro key
  repeat' (first|refine vz ?_|(conv=>whnf); first|with_reducible first|refine Sp.mk ?_ ?_|refine br_d (fun _=>?_) fun _=>?_|refine vM (fun _=>?_) fun _=>?_)
  ·rename_i q1 q2 q3
   refine hno fun n hn e=>?_
   subst e
   exact num_0 (by omega) q3
  ·rename_i q1 q2 q3
   replace q1:1≤s.size∧s.size≤6:=by omega
   clear q2 q3
   refine Lp.mk ⟨Nat,fun i=>[(0,.str s),(3,.int .i64 (valL 0 (s.data.toList.take i):Nat)),(4,.int .i64 i)],fun _=>[],fun i=>i≤s.size∧valL 0 (s.data.toList.take i)+1≤10 ^ i,fun i=>s.size-i,⟨0,⟨Nat.zero_le _,Nat.le_refl _⟩,⟨⟨[],[],rfl,rfl,?_,?_⟩⟩⟩,?_⟩
   ·exact wq
   ·exact wq
   revert q1
   exact key.t
  ·rename_i q1 q2
   replace q1:1≤s.size∧s.size≤6:=by omega
   clear q2
   refine Lp.mk ⟨Nat,fun i=>[(0,.str s),(3,.int .i64 (valL 0 (s.data.toList.take i):Nat)),(4,.int .i64 i)],fun _=>[],fun i=>i≤s.size∧valL 0 (s.data.toList.take i)+1≤10 ^ i,fun i=>s.size-i,⟨0,⟨Nat.zero_le _,Nat.le_refl _⟩,⟨⟨[],[],rfl,rfl,?_,?_⟩⟩⟩,?_⟩
   ·exact wq
   ·exact wq
   revert q1
   exact key.t
  ·rename_i q1
   refine hno fun n hn e=>q1 ?_
   subst e
   have:=num_len hn
   omega
 rintro ⟨h1,h6⟩ i ⟨i1,i2⟩
 have ip:10 ^ i≤10 ^ 6:=Nat.pow_le_pow_right (by decide) (by omega)
 have ip':(10:Nat) ^ 6=1000000:=by decide
 dsimp only
 by_cases hi:i<s.size
 ·obtain ⟨b,e1,e2,e3⟩:=take_bt hi
  have hv:=val_step e3
  have hb:=b.toNat_lt
  have e1':bt s (i:Int).toNat=(b.toNat:Int):=e1
  have hbad:¬ digB b→K (.int .i64 (-1)):=fun hd=>hno fun n hn e=>hd (by subst e; rw [num_list] at e2; exact dec_dig n b e2)
  repeat' (first|refine vz ?_|(conv=>whnf); first|with_reducible first|refine Sp.mk ?_ ?_|refine br_d (fun _=>?_) fun _=>?_|refine vM (fun _=>?_) fun _=>?_)
  ·exact hbad fun q=>by unfold digB at q; omega
  ·exact hbad fun q=>by unfold digB at q; omega
  ·refine ⟨i+1,⟨by omega,by rw [hv,Nat.pow_succ]; omega⟩,by omega,⟨⟨[],[],rfl,rfl,?_,?_⟩⟩⟩
   ·exact wq
   ·exact wq
 ·obtain rfl:i=s.size:=by omega
  have ht:s.data.toList.take s.size=s.data.toList:=List.take_of_length_le (by rw [Array.length_toList]; exact Nat.le_refl _)
  rw [ht] at i2 ⊢
  repeat' (first|refine vz ?_|(conv=>whnf); first|with_reducible first|refine Sp.mk ?_ ?_|refine br_d (fun _=>?_) fun _=>?_|refine vM (fun _=>?_) fun _=>?_)
  exact h _ ⟨by omega,by omega⟩ fun n hn e=>by rw [e,num_val]
end Go.Proofs.YtapeebjjljohdaaGreatDoor.Vc
end
section
/- Part QB: the reference's digits, told whole. -/
namespace Go.Proofs.YtapeebjjljohdaaGreatDoor.Vc
open Go.Proofs
set_option maxRecDepth 10000
set_option maxHeartbeats 4000000
theorem dig_of {b:UInt8} (h:digB b):UInt8.ofNat (48+(b.toNat-48))=b:=by
 unfold digB at h
 apply UInt8.toNat_inj.1
 rw [UInt8.toNat_ofNat']
 omega
theorem dec_of:∀ (k:Nat) (l:List UInt8),l.length=k+1→(∀ b∈l,digB b)→(k=0∨l.head?≠some 48)→Lib.decDigits (valL 0 l)=l:=by
 intro k
 induction k with
 |zero =>
  intro l hl hd _
  match l,hl with
  |[b],_ =>
   have hb:=hd b List.mem_cons_self
   have e:=dig_of hb
   unfold digB at hb
   show Lib.decDigits (0*10+(b.toNat-48))=[b]
   rw [Lib.decDigits,dif_pos (by omega),Nat.zero_mul,Nat.zero_add,e]
 |succ k ih =>
  intro l hl hd hh
  replace hh:l.head?≠some 48:=hh.resolve_left (by omega)
  obtain ⟨l',b,rfl⟩:∃ l' b,l=l' ++ [b]:=⟨l.dropLast,l.getLast (by intro e; rw [e] at hl; simp at hl),(List.dropLast_concat_getLast _).symm⟩
  have hl':l'.length=k+1:=by rw [List.length_append] at hl; simpa using hl
  have hh':l'.head?≠some 48:=by
   cases l' with
   |nil=>simp at hl'
   |cons c r=>simpa using hh
  have e:=ih l' hl' (fun c hc=>hd c (List.mem_append_left _ hc)) (.inr hh')
  have hb:=hd b (List.mem_append_right _ List.mem_cons_self)
  have e2:=dig_of hb
  unfold digB at hb
  have hv:valL 0 (l' ++ [b])=valL 0 l'*10+(b.toNat-48):=by rw [valL_app]; rfl
  have h1:1≤valL 0 l':=by
   rcases Nat.eq_zero_or_pos (valL 0 l') with h0|h0
   ·rw [h0,Lib.decDigits] at e
    rw [dif_pos (by omega)] at e
    rw [← e] at hh'
    exact absurd rfl hh'
   ·exact h0
  rw [hv,Lib.decDigits,dif_neg (by omega),show (valL 0 l'*10+(b.toNat-48)) / 10=valL 0 l' by omega,show (valL 0 l'*10+(b.toNat-48)) % 10=b.toNat-48 by omega,e,e2]
def digV (s:ByteArray):Int:=if isNum s=true then (valL 0 s.data.toList:Nat) else -1
theorem digV_of {s:ByteArray} (h1:1≤s.size∧s.size≤6) (hd:∀ b∈s.data.toList,digB b) (h0:s.size=1∨¬ bt s 0=48) (hv:valL 0 s.data.toList<1000000):digV s=(valL 0 s.data.toList:Nat):=by
 have hlen:s.data.toList.length=s.size:=Array.length_toList
 have e:=dec_of (s.size-1) s.data.toList (by omega) hd (by
  rcases h0 with h0|h0
  ·exact .inl (by omega)
  ·refine .inr fun q=>h0 ?_
   obtain ⟨b,e1,e2⟩:=drop_bt (s:=s) (i:=0) (by omega)
   rw [List.drop_zero] at e2
   rw [e2] at q
   have:b=48:=by simpa using q
   have e3:bt s ((0:Nat):Int).toNat=(b.toNat:Int):=e1
   show bt s 0=48
   rw [show bt s 0=(b.toNat:Int) from e3,this]
   rfl)
 have hn:isNum s=true:=by
  unfold isNum
  refine decide_eq_true ⟨hv,?_⟩
  apply ByteArray.ext
  apply Array.toList_inj.1
  rw [num_list,e]
 unfold digV
 rw [if_pos hn]
theorem digV_num {n:Nat} (h:n<1000000):digV (num (n:Int))=n:=by
 unfold digV
 rw [if_pos (isNum_num h),num_val]
theorem digV_no {s:ByteArray} (h:∀ n:Nat,n<1000000→s=num n→False):digV s=-1:=by
 unfold digV
 rw [isNum_no fun ⟨n,h1,h2⟩=>h n h1 h2,if_neg Bool.false_ne_true]
theorem digV_lt (s:ByteArray):-1≤digV s∧digV s<1000000:=by
 unfold digV
 split
 ·rename_i h
  have:=(of_decide_eq_true h).1
  omega
 ·omega
theorem digV_isNum {s:ByteArray}:0≤digV s ↔ isNum s=true:=by
 unfold digV
 split
 ·rename_i h; exact ⟨fun _=>h,fun _=>by omega⟩
 ·rename_i h; exact ⟨fun q=>by omega,fun q=>absurd q h⟩
def C216s:List AV→(AV→Prop)→Prop:=con (X:=ByteArray) (fun s=>[.str s]) (fun s=>s.size<9223372036854775808) fun s K=>K (.int .i64 (digV s))
theorem F216s:FF 66 C216s:=by
 refine fitE [(83,C35)] (by simp only [List.mem_cons,List.not_mem_nil,or_false]; rintro _ rfl <;> first|exact F35) Tryz.f66 ⟨rfl,by decide +kernel,by decide +kernel⟩ (fun _ _ _ hk h=>hk _ h) ?_
 rintro s K hs h
 refine ⟨Nat.le_of_ble_eq_true rfl,?_⟩
 repeat' (first|refine vz ?_|(conv=>whnf); first|with_reducible first|refine Sp.mk ?_ ?_|refine br_d (fun _=>?_) fun _=>?_|refine vM (fun _=>?_) fun _=>?_)
 refine ⟨((s.size:Int),1,6),?_,⟨trivial⟩,?_⟩
 ·exact wq
 dsimp only
 have hno:(∀ n:Nat,n<1000000→s=num n→False)→K (.int .i64 (-1)):=fun hn=>digV_no hn ▸ h
 apply later
 ·intro key
  repeat' (first|refine vz ?_|(conv=>whnf); first|with_reducible first|refine Sp.mk ?_ ?_|refine br_d (fun _=>?_) fun _=>?_|refine vM (fun _=>?_) fun _=>?_)
  ·rename_i q1 q2 q3
   refine hno fun n hn e=>?_
   subst e
   exact num_0 (by omega) q3
  ·rename_i q1 q2 q3
   replace q1:(1≤s.size∧s.size≤6)∧(s.size=1∨¬ bt s 0=48):=⟨by omega,.inr q3⟩
   clear q2 q3
   refine Lp.mk ⟨Nat,fun i=>[(0,.str s),(3,.int .i64 (valL 0 (s.data.toList.take i):Nat)),(4,.int .i64 i)],fun _=>[],fun i=>(i≤s.size∧valL 0 (s.data.toList.take i)+1≤10 ^ i)∧∀ b∈s.data.toList.take i,digB b,fun i=>s.size-i,⟨0,⟨⟨Nat.zero_le _,Nat.le_refl _⟩,fun b hb=>by cases hb⟩,⟨⟨[],[],rfl,rfl,?_,?_⟩⟩⟩,?_⟩
   ·exact wq
   ·exact wq
   revert q1
   exact key.t
  ·rename_i q1 q2
   replace q1:(1≤s.size∧s.size≤6)∧(s.size=1∨¬ bt s 0=48):=⟨by omega,.inl (by omega)⟩
   clear q2
   refine Lp.mk ⟨Nat,fun i=>[(0,.str s),(3,.int .i64 (valL 0 (s.data.toList.take i):Nat)),(4,.int .i64 i)],fun _=>[],fun i=>(i≤s.size∧valL 0 (s.data.toList.take i)+1≤10 ^ i)∧∀ b∈s.data.toList.take i,digB b,fun i=>s.size-i,⟨0,⟨⟨Nat.zero_le _,Nat.le_refl _⟩,fun b hb=>by cases hb⟩,⟨⟨[],[],rfl,rfl,?_,?_⟩⟩⟩,?_⟩
   ·exact wq
   ·exact wq
   revert q1
   exact key.t
  ·rename_i q1
   refine hno fun n hn e=>q1 ?_
   subst e
   have:=num_len hn
   omega
 rintro ⟨⟨h1,h6⟩,h0⟩ i ⟨⟨i1,i2⟩,i3⟩
 have ip:10 ^ i≤10 ^ 6:=Nat.pow_le_pow_right (by decide) (by omega)
 have ip':(10:Nat) ^ 6=1000000:=by decide
 dsimp only
 by_cases hi:i<s.size
 ·obtain ⟨b,e1,e2,e3⟩:=take_bt hi
  have hv:=val_step e3
  have hb:=b.toNat_lt
  have e1':bt s (i:Int).toNat=(b.toNat:Int):=e1
  have hbad:¬ digB b→K (.int .i64 (-1)):=fun hd=>hno fun n hn e=>hd (by subst e; rw [num_list] at e2; exact dec_dig n b e2)
  repeat' (first|refine vz ?_|(conv=>whnf); first|with_reducible first|refine Sp.mk ?_ ?_|refine br_d (fun _=>?_) fun _=>?_|refine vM (fun _=>?_) fun _=>?_)
  ·exact hbad fun q=>by unfold digB at q; omega
  ·exact hbad fun q=>by unfold digB at q; omega
  ·refine ⟨i+1,⟨⟨by omega,by rw [hv,Nat.pow_succ]; omega⟩,fun c hc=>?_⟩,by omega,⟨⟨[],[],rfl,rfl,?_,?_⟩⟩⟩
   ·rw [e3] at hc
    rcases List.mem_append.1 hc with hc|hc
    ·exact i3 c hc
    ·rw [List.mem_singleton] at hc
     subst hc
     unfold digB
     omega
   ·exact wq
   ·exact wq
 ·obtain rfl:i=s.size:=by omega
  have ht:s.data.toList.take s.size=s.data.toList:=List.take_of_length_le (by rw [Array.length_toList]; exact Nat.le_refl _)
  rw [ht] at i2 i3 ⊢
  rw [digV_of ⟨h1,h6⟩ i3 h0 (by omega)] at h
  repeat' (first|refine vz ?_|(conv=>whnf); first|with_reducible first|refine Sp.mk ?_ ?_|refine br_d (fun _=>?_) fun _=>?_|refine vM (fun _=>?_) fun _=>?_)
  exact h
end Go.Proofs.YtapeebjjljohdaaGreatDoor.Vc
end
section
/- Part UD: what a place's text is cut into. -/
namespace Go.Proofs.YtapeebjjljohdaaGreatDoor.Vc
open Go.Proofs
set_option maxRecDepth 10000
set_option maxHeartbeats 4000000
def visB (s:ByteArray):Prop:=∀ b∈s.data.toList,33≤b.toNat
theorem vis_app {a b:ByteArray} (ha:visB a) (hb:visB b):visB (a ++ b):=fun x hx=>by
 rw [ByteArray.data_append,Array.toList_append] at hx
 exact (List.mem_append.1 hx).elim (ha x) (hb x)
theorem vis_num {n:Int} (h:0≤n):visB (num n):=fun b hb=>by
 obtain ⟨k,rfl⟩:∃ k:Nat,n=k:=⟨n.toNat,by omega⟩
 rw [num_list] at hb
 have:=dec_dig k b hb
 unfold digB at this
 omega
theorem vis_one {k:UInt8} (h:33≤k.toNat):visB ⟨#[k]⟩:=fun b hb=>by
 rw [List.mem_singleton.1 hb]; exact h
theorem vis_wrap {s:ByteArray} {b:Bool} (h:visB s):visB (wrapT s b):=by
 unfold wrapT
 split
 ·exact vis_app (vis_app (vis_one (by decide)) h) (vis_one (by decide))
 ·exact h
theorem vis_letter {a:Int} (h0:0≤a) (h:a<8):visB (letter a):=vis_one (by
 rw [UInt8.toNat_ofNat',Nat.mod_eq_of_lt (by omega)]
 omega)
theorem vis_join {k:Int} {a b:Pt} (ha:visB a.s) (hb:visB b.s):visB (join2 k a b).s:=by
 unfold join2
 split
 ·exact vis_app (vis_app ha (vis_one (by decide))) (vis_wrap hb)
 ·exact vis_app (vis_app (vis_wrap ha) (vis_one (by decide))) (vis_wrap hb)
def okM (m:Mark):Prop:=m.kind=0→(0≤m.at_∧m.at_<8)∧0≤m.need
theorem vis_step {m:Mark} {st:List Pt} (hm:okM m) (h:∀ p∈st,visB p.s):∀ p∈stepT m st,visB p.s:=by
 unfold stepT
 split
 ·rename_i e
  have:=hm e
  intro p hp
  rcases List.mem_cons.1 hp with rfl|hp
  ·exact vis_app (vis_letter this.1.1 this.1.2) (vis_num this.2)
  ·exact h p hp
 ·match st,h with
  |[],h=>exact h
  |[a],h=>exact h
  |b :: a :: r,h =>
   intro p hp
   rcases List.mem_cons.1 hp with rfl|hp
   ·exact vis_join (h a (List.mem_cons_of_mem _ List.mem_cons_self)) (h b List.mem_cons_self)
   ·exact h p (List.mem_cons_of_mem _ (List.mem_cons_of_mem _ hp))
theorem vis_run:∀ {t:List Mark} {st:List Pt},(∀ m∈t,okM m)→(∀ p∈st,visB p.s)→∀ p∈runT t st,visB p.s
 |[],_,_,h=>h
 |m :: t,_,hm,h=>vis_run (t:=t) (fun x hx=>hm x (List.mem_cons_of_mem _ hx)) (vis_step (hm m List.mem_cons_self) h)
theorem walk_marks {bs:List Int} (hl:bs.length≤8):∀ {t:List Mark} {k j:Nat},walkP bs t k=some j→∀ m∈t,okM m
 |[],_,_,_,m,hm=>by cases hm
 |x :: t,k,j,h,m,hm=>by
  simp only [walkP] at h
  cases e:stepP bs x k with
  |none=>rw [e] at h; cases h
  |some i =>
   rw [e] at h
   rcases List.mem_cons.1 hm with rfl|hm
   ·intro hk
    unfold stepP at e
    split at e
    ·rename_i g
     exact ⟨⟨g.2.1,by omega⟩,by omega⟩
    ·rename_i g
     split at e
     ·rename_i g2
      omega
     ·cases e
   ·exact walk_marks hl (t:=t) (k:=i) (j:=j) h m hm
theorem vis_term {h:House} {t:List Mark} (ht:termOk h t):visB (textT t):=by
 have h1:=vis_run (t:=t) (st:=[]) (walk_marks (Nat.le_trans ht.1.2.1 (by decide)) ht.2.2) (fun _ q=>by cases q)
 unfold textT partT
 cases e:runT t [] with
 |nil=>intro b hb; cases hb
 |cons p r=>rw [e] at h1; exact h1 p List.mem_cons_self
theorem vis_rule {h:House} {r:ByteArray} (e:bad h r=false):visB r:=by
 obtain ⟨t,ht⟩:=bad_term e
 obtain ⟨_,g2,g3⟩:=(rdT_iff (by decide)).1 ht
 rw [← g3]
 exact vis_term g2
theorem vis_joinB {s:ByteArray} (hs:visB s):∀ {l:List ByteArray},(∀ x∈l,visB x)→visB (joinB l s):=by
 intro l h b hb
 have hb':b∈Lib.join (l.map (·.data.toList)) s.data.toList:=hb
 have key:∀ (l:List (List UInt8)),b∈Lib.join l s.data.toList→b∈s.data.toList∨∃ x∈l,b∈x:=by
  intro l
  induction l with
  |nil=>intro q; cases q
  |cons x l ih =>
   cases l with
   |nil=>rw [Lib.join_one]; exact fun q=>.inr ⟨x,List.mem_cons_self,q⟩
   |cons y r =>
    have e:Lib.join (x :: y :: r) s.data.toList=x ++ (s.data.toList ++ Lib.join (y :: r) s.data.toList):=by
     unfold Lib.join List.intercalate
     rw [List.intersperse_cons_cons,List.flatten_cons,List.flatten_cons]
    rw [e]
    intro q
    rcases List.mem_append.1 q with q|q
    ·exact .inr ⟨x,List.mem_cons_self,q⟩
    ·rcases List.mem_append.1 q with q|q
     ·exact .inl q
     ·exact (ih q).imp id fun ⟨z,hz,hq⟩=>⟨z,List.mem_cons_of_mem _ hz,hq⟩
 rcases key _ hb' with q|⟨x,hx,q⟩
 ·exact hs b q
 ·obtain ⟨y,hy,rfl⟩:=List.mem_map.1 hx
  exact h y hy b q
theorem vis_no {s:ByteArray} (h:visB s) {c:UInt8} (hc:c.toNat<33):c ∉ s.data.toList:=fun q=>by have:=h c q; omega
theorem num_nocomma {n:Int} (h:0≤n):(44:UInt8) ∉ (num n).data.toList:=fun q=>by
 obtain ⟨k,rfl⟩:∃ k:Nat,n=k:=⟨n.toNat,by omega⟩
 rw [num_list] at q
 have:=dec_dig k _ q
 unfold digB at this
 have h44:(44:UInt8).toNat=44:=rfl
 omega
theorem cut_listT {l:List Int} (h:smallL l) (hne:l≠[]):cutB (listT l) 44=l.map num:=joinB_cut (c:=44) (fun e=>hne (List.map_eq_nil_iff.1 e)) fun x hx=>by
 obtain ⟨n,hn,rfl⟩:=List.mem_map.1 hx
 exact num_nocomma (h.2 n hn).1
theorem cut_plT {x:Place} (h:placeOk x):cutB (plT x) 32=num x.p :: listT x.bs :: x.rules:=joinB_cut (c:=32) (List.cons_ne_nil _ _) fun y hy=>by
 obtain ⟨g1,g2,g3,g4⟩:=placeOk_small h
 refine vis_no ?_ (by decide)
 rcases List.mem_cons.1 hy with rfl|hy
 ·exact vis_num g2
 ·rcases List.mem_cons.1 hy with rfl|hy
  ·exact vis_joinB (vis_one (by decide)) fun z hz=>by
    obtain ⟨n,hn,rfl⟩:=List.mem_map.1 hz
    exact vis_num (g1.2 n hn).1
  ·exact vis_rule (h.2.2 y hy)
theorem num_inj {m:Nat} {n:Int} (h0:0≤n) (h:num (m:Int)=num n):(m:Int)=n:=by
 obtain ⟨k,rfl⟩:∃ k:Nat,n=k:=⟨n.toNat,by omega⟩
 have:=num_val m
 rw [h,num_val] at this
 rw [this]
theorem plT_inj {x y:Place} (hx:placeOk x) (hy:placeOk y) (h:plT x=plT y):x=y:=by
 have e:=cut_plT hx
 rw [h,cut_plT hy] at e
 obtain ⟨x1,x2,x3⟩:=x
 obtain ⟨y1,y2,y3⟩:=y
 have sx:=placeOk_small hx
 have sy:=placeOk_small hy
 injection e with e1 e2
 injection e2 with e2 e3
 have nx:=placeOk_bs hx
 have ny:=placeOk_bs hy
 dsimp only at e1 e2 e3 sx sy nx ny
 have h1:x1=y1:=by
  obtain ⟨k,rfl⟩:∃ k:Nat,y1=k:=⟨y1.toNat,by omega⟩
  exact (num_inj sx.2.1 e1).symm
 have e4:=cut_listT sx.1 nx
 rw [← e2,cut_listT sy.1 ny] at e4
 have h2:x2=y2:=by
  have key:∀ (a b:List Int),(∀ n∈a,0≤n)→(∀ n∈b,0≤n)→a.map num=b.map num→a=b:=by
   intro a
   induction a with
   |nil=>intro b _ _ e; cases b with|nil=>rfl|cons=>cases e
   |cons n a ih =>
    intro b ha hb e
    cases b with
    |nil=>cases e
    |cons m b =>
     rw [List.map_cons,List.map_cons] at e
     injection e with e1 e2
     obtain ⟨k,rfl⟩:∃ k:Nat,n=k:=⟨n.toNat,by have:=ha n List.mem_cons_self; omega⟩
     rw [num_inj (hb m List.mem_cons_self) e1,ih b (fun z hz=>ha z (List.mem_cons_of_mem _ hz)) (fun z hz=>hb z (List.mem_cons_of_mem _ hz)) e2]
  exact (key _ _ (fun n hn=>(sy.1.2 n hn).1) (fun n hn=>(sx.1.2 n hn).1) e4).symm
 rw [h1,h2,e3]
end Go.Proofs.YtapeebjjljohdaaGreatDoor.Vc
end
section
/- Part UE: places that are read, by the reference. -/
namespace Go.Proofs.YtapeebjjljohdaaGreatDoor.Vc
open Go.Proofs
set_option maxRecDepth 10000
set_option maxHeartbeats 4000000
def isPt (s:ByteArray) (x:Place):Prop:=placeOk x∧plT x=s
def rpPost (s:ByteArray) (K:AV→Prop):Prop:=(∀ x,isPt s x→K (.tup [enPl x,.bool true]))∧((¬ ∃ x,isPt s x)→K (.tup [enPl default,.bool false]))
theorem rpPost.mono {s:ByteArray} {K K2:AV→Prop} (hk:∀ r,K r→K2 r) (h:rpPost s K):rpPost s K2:=⟨fun x q=>hk _ (h.1 x q),fun q=>hk _ (h.2 q)⟩
theorem isPt_cut {s:ByteArray} {x:Place} (h:isPt s x):cutB s 32=num x.p :: listT x.bs :: x.rules:=by rw [← h.2]; exact cut_plT h.1
theorem isPt_len {s:ByteArray} {x:Place} (h:isPt s x):3≤(cutB s 32).length:=by
 rw [isPt_cut h]
 have:=h.1.2.1.1
 simp only [List.length_cons]
 omega
theorem isPt_p {s:ByteArray} {x:Place} (h:isPt s x):∃ n:Nat,n<1000000∧(cutB s 32).getD 0 ⟨#[]⟩=num n∧x.p=n:=by
 have:=placeOk_small h.1
 rw [isPt_cut h]
 exact ⟨x.p.toNat,by omega,by show num x.p=_; congr 1; omega,by omega⟩
theorem isPt_bs {s:ByteArray} {x:Place} (h:isPt s x):cutB ((cutB s 32).getD 1 ⟨#[]⟩) 44=x.bs.map num:=by
 rw [isPt_cut h]
 exact cut_listT (placeOk_small h.1).1 (placeOk_bs h.1)
theorem isPt_b {s:ByteArray} {x:Place} (h:isPt s x) {i:Nat} (hi:i<x.bs.length):∃ n:Nat,n<1000000∧(cutB ((cutB s 32).getD 1 ⟨#[]⟩) 44).getD i ⟨#[]⟩=num n∧x.bs.getD i 0=n:=by
 have hs:=(placeOk_small h.1).1.2 _ (getD_mem' (d:=0) hi)
 rw [isPt_bs h]
 refine ⟨(x.bs.getD i 0).toNat,by omega,?_,by omega⟩
 rw [List.getD_eq_getElem?_getD,List.getElem?_map,List.getElem?_eq_getElem hi,List.getD_eq_getElem?_getD,List.getElem?_eq_getElem hi] at *
 show num _=num _
 congr 1
 have:(x.bs[i]?.getD 0:Int)=x.bs[i]:=by rw [List.getElem?_eq_getElem hi]; rfl
 simp only [Option.getD_some] at hs ⊢
 omega
theorem isPt_rs {s:ByteArray} {x:Place} (h:isPt s x):(cutB s 32).drop 2=x.rules:=by rw [isPt_cut h]; rfl
theorem isPt_one {s:ByteArray} {x y:Place} (h:isPt s x) (g:isPt s y):x=y:=plT_inj h.1 g.1 (h.2.trans g.2.symm)
theorem isPt_ne {s:ByteArray} {x:Place} (h:isPt s x):s≠⟨#[]⟩:=fun e=>by
 have:=isPt_len h
 rw [e] at this
 exact absurd this (by decide)
def C219:List AV→(AV→Prop)→Prop:=con (X:=ByteArray) (fun s=>[.str s]) (fun s=>s.size<4294967281) rpPost
theorem F219:FF 92 C219:=by
 refine fitXE [(65,C215),(66,C216),(64,C142)] (by simp only [List.mem_cons,List.not_mem_nil,or_false]; rintro _ (rfl|rfl|rfl) <;> first|exact F215|exact F216|exact F142) [] (by simp) Tryz.f92 ⟨rfl,by decide +kernel,by decide +kernel⟩ (fun _ _ _ hk h=>h.mono hk) ?_
 rintro s K hs ⟨h,hno⟩
 refine ⟨Nat.le_of_ble_eq_true rfl,?_⟩
 repeat' (first|refine vz ?_|(conv=>whnf); first|with_reducible first|refine Sp.mk ?_ ?_|refine br_d (fun _=>?_) fun _=>?_|refine vM (fun _=>?_) fun _=>?_)
 refine ⟨(s,32),?_,⟨hs⟩,?_⟩
 ·exact wq
 obtain ⟨L,hL⟩:∃ L,cutB s 32=L:=⟨_,rfl⟩
 have hl2:=(cutB_len s 32).2
 have hlm:∀ x∈L,x.size≤s.size:=fun x hx=>cutB_mem (c:=32) (hL ▸ hx)
 have hx3:∀ x,isPt s x→3≤L.length:=fun x q=>hL ▸ isPt_len q
 dsimp only
 rw [hL] at hl2 ⊢
 repeat' (first|refine vz ?_|(conv=>whnf); first|with_reducible first|refine Sp.mk ?_ ?_|refine br_d (fun _=>?_) fun _=>?_|refine vM (fun _=>?_) fun _=>?_)
 ·rename_i h3
  refine ⟨_,?_,hno fun ⟨x,q⟩=>by have:=hx3 x q; omega⟩
  repeat' ((conv=>whnf); first|with_reducible exact True.intro|exact vW|with_reducible refine And.intro ?_ ?_)
 rename_i h3
 obtain ⟨Q,hQ⟩:∃ Q,L.drop 2=Q:=⟨_,rfl⟩
 have hQl:Q.length=L.length-2:=by rw [← hQ,List.length_drop]
 have hQe:Q.length=(L.length:Int).toNat-Int.toNat 2∧∀ i,i<Q.length→encS (Q.getD i ⟨#[]⟩)=encS (L.getD (Int.toNat 2+i) ⟨#[]⟩):=⟨hQl,fun i _=>by
  rw [← hQ,List.getD_eq_getElem?_getD,List.getElem?_drop,← List.getD_eq_getElem?_getD]
  rfl⟩
 apply later
 ·intro key
  refine Dr.mk ⟨(.rd 0 (.rd 1 (.rd 2 (.rd 6 (.rd 7 (.ef 3 (.rd 4 (.ef 5 (.ef 8 (.rd 9 (.ef 10 (.ef 11 .dn .no) .no)) (.ef 10 (.ef 8 (.rd 9 (.ef 11 .dn .no)) .no) .no)) (.ef 10 (.ef 5 (.ef 8 (.rd 9 (.ef 11 .dn .no)) .no) .no) .no))) (.ef 5 (.ef 3 (.rd 4 (.ef 8 (.rd 9 (.ef 10 (.ef 11 .dn .no) .no)) (.ef 10 (.ef 8 (.rd 9 (.ef 11 .dn .no)) .no) .no))) (.ef 10 (.ef 3 (.rd 4 (.ef 8 (.rd 9 (.ef 11 .dn .no)) .no)) .no) .no)) (.ef 10 (.ef 3 (.rd 4 (.ef 5 (.ef 8 (.rd 9 (.ef 11 .dn .no)) .no) .no)) (.ef 5 (.ef 3 (.rd 4 (.ef 8 (.rd 9 (.ef 11 .dn .no)) .no)) .no) .no)) .no)))))))),by decide +kernel,?_⟩
  repeat' (first|refine vz ?_|(conv=>whnf); first|with_reducible first|refine Sp.mk ?_ ?_|refine br_d (fun _=>?_) fun _=>?_|refine vM (fun _=>?_) fun _=>?_)
  all_goals
   refine ⟨L.getD 0 ⟨#[]⟩,?_,⟨by have:=hlm _ (getD_mem' (l:=L) (i:=0) (d:=⟨#[]⟩) (by omega)); omega⟩,?_⟩
   ·exact wq
   intro v hv hn
   have hp:∀ x,isPt s x→v=x.p:=fun x q=>by
    obtain ⟨n,n1,n2,n3⟩:=isPt_p q
    rw [hL] at n2
    rw [hn n n1 n2,n3]
   repeat' ((conv=>whnf); first|with_reducible refine wk_at 5 ?_|with_reducible refine wk_at1 5 ?_|with_reducible refine wk_at2 5 ?_|refine vA ?_|with_reducible first|refine v8 ?_|refine Sp.mk ?_ ?_|refine vS ?_|refine vR ?_|refine vB ?_|refine br_nt ?_|refine br_tt ?_|refine br_ff ?_|refine vP ?_|refine vQ ?_|refine vT ?_|refine vF ?_|refine br_and ?_|refine br_or ?_|refine br_d (fun _=>?_) fun _=>?_|refine vM (fun _=>?_) fun _=>?_)
  all_goals
   refine ⟨Wk.go [(0,.str s),(2,.ptr 0 0),(4,slS L),(5,.ptr 1 0)] [.box [.int .i64 0,.nils,.nils],.box [.int .i64 v,.nils,.row 2 1 0 Q.length],.row 1 Q.length fun i=>encS (Q.getD i ⟨#[]⟩)] ?_ ?_⟩
   ·first|(refine ⟨⟨[some 0,some 1,some 2],[],rfl,rfl,?_,?_⟩⟩ <;> (repeat' ((conv=>whnf); first|with_reducible exact True.intro|exact vW|with_reducible refine And.intro ?_ ?_|exact Chk.mk hQe)) <;> fail)|(refine ⟨⟨[some 0,some 2,some 1],[],rfl,rfl,?_,?_⟩⟩ <;> (repeat' ((conv=>whnf); first|with_reducible exact True.intro|exact vW|with_reducible refine And.intro ?_ ?_|exact Chk.mk hQe)) <;> fail)
   clear hn
   revert v
   exact key.t
 intro v hv hp
 obtain ⟨M,hM⟩:∃ M,cutB (L.getD 1 ⟨#[]⟩) 44=M:=⟨_,rfl⟩
 have h1s:=hlm _ (getD_mem' (l:=L) (i:=1) (d:=⟨#[]⟩) (by omega))
 have hMl:=(cutB_len (L.getD 1 ⟨#[]⟩) 44).2
 have hMm:∀ x∈M,x.size≤s.size:=fun x hx=>Nat.le_trans (cutB_mem (c:=44) (hM ▸ hx)) h1s
 have hMx:∀ x,isPt s x→M=x.bs.map num:=fun x q=>by rw [← hM,← hL]; exact isPt_bs q
 have hMb:∀ x,isPt s x→∀ i,i<x.bs.length→∃ n:Nat,n<1000000∧M.getD i ⟨#[]⟩=num n∧x.bs.getD i 0=n:=fun x q i hi=>by rw [← hM,← hL]; exact isPt_b q hi
 repeat' (first|refine vz ?_|(conv=>whnf); first|with_reducible first|refine Sp.mk ?_ ?_|refine br_d (fun _=>?_) fun _=>?_|refine vM (fun _=>?_) fun _=>?_)
 refine ⟨(L.getD 1 ⟨#[]⟩,44),?_,⟨by dsimp only; omega⟩,?_⟩
 ·exact wq
 dsimp only
 rw [hM] at hMl ⊢
 repeat' (first|refine vz ?_|(conv=>whnf); first|with_reducible first|refine Sp.mk ?_ ?_|refine br_d (fun _=>?_) fun _=>?_|refine vM (fun _=>?_) fun _=>?_)
 refine Lp.mk ⟨List Int,fun B=>[(0,.str s),(2,.ptr 0 0),(5,.ptr 1 0),(6,slS M),(7,.int .i64 B.length)],fun B=>[.box [.int .i64 0,.nils,.nils],.box [.int .i64 v,.row 3 1 0 B.length,.row 2 1 0 Q.length],.row 1 Q.length fun i=>encS (Q.getD i ⟨#[]⟩),.row 1 B.length fun i=>encI (B.getD i 0)],
  fun B=>B.length≤M.length∧(∀ n∈B,i64r n)∧∀ x,isPt s x→B=x.bs.take B.length,fun B=>M.length-B.length,⟨[],⟨Nat.zero_le _,(fun _ q=>by cases q),(fun _ _=>rfl)⟩,⟨⟨[some 0,some 1,some 2,none],[],rfl,rfl,?_,?_⟩⟩⟩,?_⟩
 ·exact wq
 ·exact wq
 rintro B ⟨i1,i2,i3⟩
 dsimp only
 by_cases hk:B.length<M.length
 ·repeat' (first|refine vz ?_|(conv=>whnf); first|with_reducible first|refine Sp.mk ?_ ?_|refine br_d (fun _=>?_) fun _=>?_|refine vM (fun _=>?_) fun _=>?_)
  refine Dr.mk ⟨(.rd 0 (.rd 1 (.rd 2 (.rd 3 (.rd 4 (.rd 5 (.rd 6 (.ef 7 (.ef 8 (.ef 9 (.rd 10 (.rd 11 (.ef 12 .dn .no))) .no) .no) .no)))))))),by decide +kernel,?_⟩
  repeat' (first|refine vz ?_|(conv=>whnf); first|with_reducible first|refine Sp.mk ?_ ?_|refine br_d (fun _=>?_) fun _=>?_|refine vM (fun _=>?_) fun _=>?_)
  refine ⟨M.getD B.length ⟨#[]⟩,?_,⟨by have:=hMm _ (getD_mem' (d:=⟨#[]⟩) hk); omega⟩,?_⟩
  ·exact wq
  intro w hw hn
  have hnext:∀ x,isPt s x→B ++ [w]=x.bs.take (B.length+1):=fun x q=>by
   have e2:=hMx x q
   have e3:x.bs.length=M.length:=by rw [e2,List.length_map]
   obtain ⟨n,n1,n2,n3⟩:=hMb x q B.length (by omega)
   rw [take_succ' 0 (by omega),← i3 x q,hn n n1 n2,n3]
  have hi2:∀ n∈B ++ [w],i64r n:=fun n hm=>(List.mem_append.1 hm).elim (i2 n) fun hm=>by rw [List.mem_singleton.1 hm]; exact hw
  have hBl:(B ++ [w]).length=B.length+1:=by rw [List.length_append]; rfl
  repeat' (first|refine vz ?_|(conv=>whnf); first|with_reducible first|refine Sp.mk ?_ ?_|refine br_d (fun _=>?_) fun _=>?_|refine vM (fun _=>?_) fun _=>?_)
  refine ⟨B ++ [w],⟨by omega,hi2,fun x q=>by rw [hBl]; exact hnext x q⟩,by omega,?_⟩
  first|(refine ⟨⟨[some 0,some 1,some 2,some 5],[],rfl,rfl,?_,?_⟩⟩ <;> (repeat' ((conv=>whnf); first|with_reducible exact True.intro|exact vW|with_reducible refine And.intro ?_ ?_|exact Chk.mk ⟨rfl,hBl⟩|exact Chk.mk (ext_push rfl))) <;> fail)|(refine ⟨⟨[some 0,some 1,some 2,some 4],[],rfl,rfl,?_,?_⟩⟩ <;> (repeat' ((conv=>whnf); first|with_reducible exact True.intro|exact vW|with_reducible refine And.intro ?_ ?_|exact Chk.mk ⟨rfl,hBl⟩|exact Chk.mk (ext_push rfl))) <;> fail)
 ·have hBx:∀ x,isPt s x→x=⟨v,B,Q⟩:=fun x q=>by
   have e1:=i3 x q
   have e2:=hMx x q
   have e3:x.bs.length=M.length:=by rw [e2,List.length_map]
   rw [List.take_of_length_le (by omega)] at e1
   have e4:=isPt_rs q
   rw [hL,hQ] at e4
   obtain ⟨xp,xb,xr⟩:=x
   have e5:=hp _ q
   dsimp only at e1 e4 e5
   rw [e1,e4,e5]
  have hyI:placeI ⟨v,B,Q⟩:=⟨⟨⟨hv,i2⟩,by show B.length<_; omega⟩,by show Q.length<_; omega,fun r hr=>by have:=hlm r (by rw [← hQ] at hr; exact List.mem_of_mem_drop hr); omega⟩
  have hno':(¬ ptext ⟨v,B,Q⟩=s∨s=⟨#[]⟩)→K (.tup [enPl default,.bool false]):=fun q=>hno fun ⟨x,g⟩=>by
   rcases q with q|q
   ·rw [← hBx x g] at q
    exact q ((if_pos g.1).trans g.2)
   ·exact isPt_ne g q
  have hyes:ptext ⟨v,B,Q⟩=s→s≠⟨#[]⟩→K (.tup [enPl ⟨v,B,Q⟩,.bool true]):=fun e ne=>h _ (by
   by_cases hO:placeOk ⟨v,B,Q⟩
   ·exact ⟨hO,(if_pos hO).symm.trans e⟩
   ·exact absurd ((if_neg hO).symm.trans e).symm ne)
  repeat' (first|refine vz ?_|(conv=>whnf); first|with_reducible first|refine Sp.mk ?_ ?_|refine br_d (fun _=>?_) fun _=>?_|refine vM (fun _=>?_) fun _=>?_)
  ·rename_i hs0
   refine ⟨_,?_,hno' (.inr hs0)⟩
   repeat' ((conv=>whnf); first|with_reducible exact True.intro|exact vW|with_reducible refine And.intro ?_ ?_)
  ·rename_i hs0
   refine ⟨⟨v,B,Q⟩,?_,⟨hyI⟩,?_⟩
   ·repeat' ((conv=>whnf); first|with_reducible exact True.intro|exact vW|with_reducible refine And.intro ?_ ?_)
    all_goals exact Chk.mk ⟨rfl,fun i _=>by dsimp only; rw [Nat.zero_add]⟩
   repeat' (first|refine vz ?_|(conv=>whnf); first|with_reducible first|refine Sp.mk ?_ ?_|refine br_d (fun _=>?_) fun _=>?_|refine vM (fun _=>?_) fun _=>?_)
   ·rename_i he
    refine ⟨_,?_,hyes he hs0⟩
    repeat' ((conv=>whnf); first|with_reducible exact True.intro|exact vW|with_reducible refine And.intro ?_ ?_)
    all_goals exact Chk.mk ⟨rfl,fun i _=>by dsimp only; rw [Nat.zero_add]⟩
   ·rename_i he
    refine ⟨_,?_,hno' (.inl he)⟩
    repeat' ((conv=>whnf); first|with_reducible exact True.intro|exact vW|with_reducible refine And.intro ?_ ?_)
end Go.Proofs.YtapeebjjljohdaaGreatDoor.Vc
end
section
/- Part UF: places that are read, by the implementation. -/
namespace Go.Proofs.YtapeebjjljohdaaGreatDoor.Vc
open Go.Proofs
set_option maxRecDepth 10000
set_option maxHeartbeats 4000000
def C214:List AV→(AV→Prop)→Prop:=con (X:=ByteArray) (fun s=>[.str s]) (fun s=>s.size<4294967281) rpPost
theorem placeOk_short' {x:Place} (h:placeOk x):x.rules.length≤100000000∧x.bs.length≤100000000:=⟨Nat.le_trans h.2.1.2 (by omega),Nat.le_trans h.1.2.1 (by omega)⟩
theorem isPt_num {s:ByteArray} {x:Place} (h:isPt s x):isNum ((cutB s 32).getD 0 ⟨#[]⟩)=true:=by
 obtain ⟨n,n1,n2,_⟩:=isPt_p h
 rw [n2]
 exact isNum_num n1
theorem F214:FF 47 C214:=by
 refine fitXE [(85,C211),(86,C213),(74,C152),(54,C166),(77,C157)] (by simp only [List.mem_cons,List.not_mem_nil,or_false]; rintro _ (rfl|rfl|rfl|rfl|rfl) <;> first|exact F211|exact F213|exact F152|exact F166|exact F157) [] (by simp) Tryz.f47 ⟨rfl,by decide +kernel,by decide +kernel⟩ (fun _ _ _ hk h=>h.mono hk) ?_
 rintro s K hs ⟨h,hno⟩
 refine ⟨Nat.le_of_ble_eq_true rfl,?_⟩
 repeat' (first|refine vz ?_|(conv=>whnf); first|with_reducible first|refine Sp.mk ?_ ?_|refine br_d (fun _=>?_) fun _=>?_|refine vM (fun _=>?_) fun _=>?_)
 refine ⟨(s,32),?_,⟨hs⟩,?_⟩
 ·exact wq
 obtain ⟨L,hL⟩:∃ L,cutB s 32=L:=⟨_,rfl⟩
 have hl2:=(cutB_len s 32).2
 have hlm:∀ x∈L,x.size≤s.size:=fun x hx=>cutB_mem (c:=32) (hL ▸ hx)
 have hx3:∀ x,isPt s x→3≤L.length:=fun x q=>hL ▸ isPt_len q
 dsimp only
 rw [hL] at hl2 ⊢
 repeat' (first|refine vz ?_|(conv=>whnf); first|with_reducible first|refine Sp.mk ?_ ?_|refine br_d (fun _=>?_) fun _=>?_|refine vM (fun _=>?_) fun _=>?_)
 ·rename_i h3
  refine ⟨_,?_,hno fun ⟨x,q⟩=>by have:=hx3 x q; omega⟩
  repeat' ((conv=>whnf); first|with_reducible exact True.intro|exact vW|with_reducible refine And.intro ?_ ?_)
 rename_i h3
 obtain ⟨Q,hQ⟩:∃ Q,L.drop 2=Q:=⟨_,rfl⟩
 have hQl:Q.length=L.length-2:=by rw [← hQ,List.length_drop]
 refine ⟨L.getD 0 ⟨#[]⟩,?_,⟨by have:=hlm _ (getD_mem' (l:=L) (i:=0) (d:=⟨#[]⟩) (by omega)); omega⟩,?_⟩
 ·exact wq
 intro v hv hn
 have hp:∀ x,isPt s x→v=x.p:=fun x q=>by
  obtain ⟨n,n1,n2,n3⟩:=isPt_p q
  rw [hL] at n2
  rw [hn n n1 n2,n3]
 have hpn:∀ x,isPt s x→isNum (L.getD 0 ⟨#[]⟩)=true:=fun x q=>hL ▸ isPt_num q
 generalize isNum (L.getD 0 ⟨#[]⟩)=okp at hpn ⊢
 have hQe:Q.length=(L.length:Int).toNat-Int.toNat 2∧∀ i,i<Q.length→encS (Q.getD i ⟨#[]⟩)=encS (L.getD (Int.toNat 2+i) ⟨#[]⟩):=⟨hQl,fun i _=>by
  rw [← hQ,List.getD_eq_getElem?_getD,List.getElem?_drop,← List.getD_eq_getElem?_getD]
  rfl⟩
 obtain ⟨M,hM⟩:∃ M,cutB (L.getD 1 ⟨#[]⟩) 44=M:=⟨_,rfl⟩
 have h1s:=hlm _ (getD_mem' (l:=L) (i:=1) (d:=⟨#[]⟩) (by omega))
 have hMl:=(cutB_len (L.getD 1 ⟨#[]⟩) 44).2
 have hMm:∀ x∈M,x.size≤s.size:=fun x hx=>Nat.le_trans (cutB_mem (c:=44) (hM ▸ hx)) h1s
 have hMx:∀ x,isPt s x→M=x.bs.map num:=fun x q=>by rw [← hM,← hL]; exact isPt_bs q
 have hMb:∀ x,isPt s x→∀ i,i<x.bs.length→∃ n:Nat,n<1000000∧M.getD i ⟨#[]⟩=num n∧x.bs.getD i 0=n:=fun x q i hi=>by rw [← hM,← hL]; exact isPt_b q hi
 repeat' (first|refine vz ?_|(conv=>whnf); first|with_reducible first|refine Sp.mk ?_ ?_|refine br_d (fun _=>?_) fun _=>?_|refine vM (fun _=>?_) fun _=>?_)
 refine ⟨(L.getD 1 ⟨#[]⟩,44),?_,⟨by dsimp only; omega⟩,?_⟩
 ·exact wq
 dsimp only
 rw [hM] at hMl ⊢
 repeat' (first|refine vz ?_|(conv=>whnf); first|with_reducible first|refine Sp.mk ?_ ?_|refine br_d (fun _=>?_) fun _=>?_|refine vM (fun _=>?_) fun _=>?_)
 refine Lp.mk ⟨List Int,fun B=>[(0,.str s),(2,.ptr 0 0),(6,.bool okp),(7,.ptr 1 0),(33,slS M),(34,.int .i64 M.length),(35,.int .i64 B.length)],fun B=>[.box [.int .i64 0,.nils,.nils],.box [.int .i64 v,.row 2 1 0 B.length,slS Q],.row 1 B.length fun i=>encI (B.getD i 0)],
  fun B=>B.length≤M.length∧(∀ n∈B,i64r n)∧∀ x,isPt s x→B=x.bs.take B.length,fun B=>M.length-B.length,⟨[],⟨Nat.zero_le _,(fun _ q=>by cases q),(fun _ _=>rfl)⟩,⟨⟨[some 0,some 1,none],[],rfl,rfl,?_,?_⟩⟩⟩,?_⟩
 ·exact wq
 ·repeat' ((conv=>whnf); first|with_reducible exact True.intro|exact vW|with_reducible refine And.intro ?_ ?_)
  all_goals exact Chk.mk hQe
 rintro B ⟨i1,i2,i3⟩
 dsimp only
 by_cases hk:B.length<M.length
 ·repeat' (first|refine vz ?_|(conv=>whnf); first|with_reducible first|refine Sp.mk ?_ ?_|refine br_d (fun _=>?_) fun _=>?_|refine vM (fun _=>?_) fun _=>?_)
  refine ⟨M.getD B.length ⟨#[]⟩,?_,⟨by have:=hMm _ (getD_mem' (d:=⟨#[]⟩) hk); omega⟩,?_⟩
  ·exact wq
  intro w hw hn
  have hnext:∀ x,isPt s x→isNum (M.getD B.length ⟨#[]⟩)=true∧B ++ [w]=x.bs.take (B.length+1):=fun x q=>by
   have e2:=hMx x q
   have e3:x.bs.length=M.length:=by rw [e2,List.length_map]
   obtain ⟨n,n1,n2,n3⟩:=hMb x q B.length (by omega)
   refine ⟨by rw [n2]; exact isNum_num n1,?_⟩
   rw [take_succ' 0 (by omega),← i3 x q,hn n n1 n2,n3]
  have hi2:∀ n∈B ++ [w],i64r n:=fun n hm=>(List.mem_append.1 hm).elim (i2 n) fun hm=>by rw [List.mem_singleton.1 hm]; exact hw
  have hBl:(B ++ [w]).length=B.length+1:=by rw [List.length_append]; rfl
  generalize isNum (M.getD B.length ⟨#[]⟩)=okb at hnext ⊢
  cases okb
  ·repeat' (first|refine vz ?_|(conv=>whnf); first|with_reducible first|refine Sp.mk ?_ ?_|refine br_d (fun _=>?_) fun _=>?_|refine vM (fun _=>?_) fun _=>?_)
   refine ⟨_,?_,hno fun ⟨x,q⟩=>by cases (hnext x q).1⟩
   repeat' ((conv=>whnf); first|with_reducible exact True.intro|exact vW|with_reducible refine And.intro ?_ ?_)
  ·repeat' (first|refine vz ?_|(conv=>whnf); first|with_reducible first|refine Sp.mk ?_ ?_|refine br_d (fun _=>?_) fun _=>?_|refine vM (fun _=>?_) fun _=>?_)
   refine ⟨B ++ [w],⟨by omega,hi2,fun x q=>by rw [hBl]; exact (hnext x q).2⟩,by omega,?_⟩
   first|(refine ⟨⟨[some 0,some 1,some 4],[],rfl,rfl,?_,?_⟩⟩ <;> (repeat' ((conv=>whnf); first|with_reducible exact True.intro|exact vW|with_reducible refine And.intro ?_ ?_|exact Chk.mk ⟨rfl,hBl⟩|exact Chk.mk (ext_push rfl))) <;> fail)|(refine ⟨⟨[some 0,some 1,some 3],[],rfl,rfl,?_,?_⟩⟩ <;> (repeat' ((conv=>whnf); first|with_reducible exact True.intro|exact vW|with_reducible refine And.intro ?_ ?_|exact Chk.mk ⟨rfl,hBl⟩|exact Chk.mk (ext_push rfl))) <;> fail)
 ·have hBx:∀ x,isPt s x→x=⟨v,B,Q⟩:=fun x q=>by
   have e1:=i3 x q
   have e2:=hMx x q
   have e3:x.bs.length=M.length:=by rw [e2,List.length_map]
   rw [List.take_of_length_le (by omega)] at e1
   have e4:=isPt_rs q
   rw [hL,hQ] at e4
   obtain ⟨xp,xb,xr⟩:=x
   have e5:=hp _ q
   dsimp only at e1 e4 e5
   rw [e1,e4,e5]
  have hyI:placeI ⟨v,B,Q⟩:=⟨⟨⟨hv,i2⟩,by show B.length<_; omega⟩,by show Q.length<_; omega,fun r hr=>by have:=hlm r (by rw [← hQ] at hr; exact List.mem_of_mem_drop hr); omega⟩
  cases okp
  ·repeat' (first|refine vz ?_|(conv=>whnf); first|with_reducible first|refine Sp.mk ?_ ?_|refine br_d (fun _=>?_) fun _=>?_|refine vM (fun _=>?_) fun _=>?_)
   refine ⟨_,?_,hno fun ⟨x,q⟩=>by cases hpn x q⟩
   repeat' ((conv=>whnf); first|with_reducible exact True.intro|exact vW|with_reducible refine And.intro ?_ ?_)
  by_cases hO:placeOk ⟨v,B,Q⟩
  ·repeat' (first|refine vz ?_|(conv=>whnf); first|with_reducible first|refine Sp.mk ?_ ?_|refine br_d (fun _=>?_) fun _=>?_|refine vM (fun _=>?_) fun _=>?_)
   refine ⟨⟨v,B,Q⟩,?_,⟨hyI⟩,?_⟩
   ·repeat' ((conv=>whnf); first|with_reducible exact True.intro|exact vW|with_reducible refine And.intro ?_ ?_)
    all_goals exact Chk.mk ⟨rfl,fun i _=>by dsimp only; rw [Nat.zero_add]⟩
   repeat' (first|refine vz ?_|(conv=>whnf); first|with_reducible first|refine Sp.mk ?_ ?_|refine br_d (fun _=>?_) fun _=>?_|refine vM (fun _=>?_) fun _=>?_)
   refine ⟨⟨v,B,Q⟩,?_,⟨hO⟩,?_⟩
   ·repeat' ((conv=>whnf); first|with_reducible exact True.intro|exact vW|with_reducible refine And.intro ?_ ?_)
    all_goals exact Chk.mk ⟨rfl,fun i _=>by dsimp only; rw [Nat.zero_add]⟩
   repeat' ((conv=>whnf); first|with_reducible refine wk_at 16 ?_|with_reducible refine wk_at1 16 ?_|with_reducible refine wk_at2 16 ?_|refine vA ?_|with_reducible first|refine v8 ?_|refine Sp.mk ?_ ?_|refine vS ?_|refine vR ?_|refine vB ?_|refine br_nt ?_|refine br_tt ?_|refine br_ff ?_|refine vP ?_|refine vQ ?_|refine vT ?_|refine vF ?_|refine br_and ?_|refine br_or ?_|refine br_d (fun _=>?_) fun _=>?_|refine vM (fun _=>?_) fun _=>?_)
   ·rename_i he
    refine ⟨Wk.go [(2,.ptr 0 0),(7,.ptr 1 0)] [.box [.int .i64 0,.nils,.nils],.box [.int .i64 v,slI B,slS Q]] ⟨⟨[some 0,some 1],[2],rfl,rfl,?_,?_⟩⟩ ?_⟩
    ·exact wq
    ·repeat' ((conv=>whnf); first|with_reducible exact True.intro|exact vW|with_reducible refine And.intro ?_ ?_)
     all_goals exact Chk.mk ⟨rfl,by omega,fun i _=>by dsimp only; rw [Nat.zero_add]⟩
    repeat' (first|refine vz ?_|(conv=>whnf); first|with_reducible first|refine Sp.mk ?_ ?_|refine br_d (fun _=>?_) fun _=>?_|refine vM (fun _=>?_) fun _=>?_)
    refine ⟨⟨v,B,Q⟩,?_,⟨placeOk_short' hO⟩,?_⟩
    ·exact wq
    dsimp only [enPl,plC]
    repeat' (first|refine vz ?_|(conv=>whnf); first|with_reducible first|refine Sp.mk ?_ ?_|refine br_d (fun _=>?_) fun _=>?_|refine vM (fun _=>?_) fun _=>?_)
    refine ⟨_,?_,h ⟨v,B,Q⟩ ⟨hO,he⟩⟩
    repeat' ((conv=>whnf); first|with_reducible exact True.intro|exact vW|with_reducible refine And.intro ?_ ?_)
   ·rename_i he
    refine ⟨_,?_,hno fun ⟨x,q⟩=>he (by rw [← hBx x q]; exact q.2)⟩
    repeat' ((conv=>whnf); first|with_reducible exact True.intro|exact vW|with_reducible refine And.intro ?_ ?_)
  ·repeat' (first|refine vz ?_|(conv=>whnf); first|with_reducible first|refine Sp.mk ?_ ?_|refine br_d (fun _=>?_) fun _=>?_|refine vM (fun _=>?_) fun _=>?_)
   refine ⟨⟨v,B,Q⟩,?_,⟨hyI⟩,?_⟩
   ·repeat' ((conv=>whnf); first|with_reducible exact True.intro|exact vW|with_reducible refine And.intro ?_ ?_)
    all_goals exact Chk.mk ⟨rfl,fun i _=>by dsimp only; rw [Nat.zero_add]⟩
   repeat' (first|refine vz ?_|(conv=>whnf); first|with_reducible first|refine Sp.mk ?_ ?_|refine br_d (fun _=>?_) fun _=>?_|refine vM (fun _=>?_) fun _=>?_)
   refine ⟨_,?_,hno fun ⟨x,q⟩=>hO (by rw [← hBx x q]; exact q.1)⟩
   repeat' ((conv=>whnf); first|with_reducible exact True.intro|exact vW|with_reducible refine And.intro ?_ ?_)
end Go.Proofs.YtapeebjjljohdaaGreatDoor.Vc
end
section
/- Part UI: stores: are they stores? -/
namespace Go.Proofs.YtapeebjjljohdaaGreatDoor.Vc
open Go.Proofs
set_option maxRecDepth 10000
set_option maxHeartbeats 4000000
def storeI (s:Store):Prop:=s.saved.size<9223372036854775808∧s.log.size<9223372036854775808∧i64r s.sure
def isSt (s:Store):Prop:=(∃ x,isPt s.saved x)∧s.log.size≤1000∧0≤s.sure∧s.sure≤s.log.size
def stPost (s:Store) (K:AV→Prop):Prop:=∀ b:Bool,(b=true ↔ isSt s)→K (.bool b)
def C220:List AV→(AV→Prop)→Prop:=con (X:=Store) (fun x=>[enSt x]) (fun s=>storeI s∧s.saved.size<4294967281) stPost
theorem F220:FF 52 C220:=by
 refine fitX [(47,C214)] (by simp only [List.mem_cons,List.not_mem_nil,or_false]; rintro _ rfl <;> first|exact F214) [] (by simp) Tryz.f52 ⟨rfl,by decide +kernel,by decide +kernel⟩ (fun _ _ _ hk h b q=>hk _ (h b q)) ?_
 rintro ⟨a,b,c⟩ K ⟨⟨h1,h2,h5⟩,h6⟩ h
 refine ⟨Nat.le_of_ble_eq_true rfl,?_⟩
 dsimp only [enSt,stC] at h1 h2 h5 h6 ⊢
 repeat' (first|refine vz ?_|(conv=>whnf); first|with_reducible first|refine Sp.mk ?_ ?_|refine br_d (fun _=>?_) fun _=>?_|refine vM (fun _=>?_) fun _=>?_)
 refine ⟨a,?_,⟨h6⟩,?_⟩
 ·exact wq
 refine ⟨fun x q=>?_,fun q=>?_⟩
 ·obtain ⟨p,bs,rs⟩:=x
  have hi:isSt ⟨a,b,c⟩ ↔ (b.size≤1000∧0≤c∧c≤b.size):=⟨fun g=>g.2,fun g=>⟨⟨_,q⟩,g⟩⟩
  dsimp only [enPl,plC]
  repeat' (first|refine vz ?_|(conv=>whnf); first|with_reducible first|refine Sp.mk ?_ ?_|refine br_d (fun _=>?_) fun _=>?_|refine vM (fun _=>?_) fun _=>?_)
  ·exact h _ ⟨fun g=>hi.2 ⟨by omega,by omega,of_decide_eq_true g⟩,fun g=>decide_eq_true (hi.1 g).2.2⟩
  all_goals exact h _ ⟨(fun g=>by cases g),fun g=>by have:=hi.1 g; omega⟩
 ·have hi:¬ isSt ⟨a,b,c⟩:=fun g=>q g.1
  dsimp only [enPl,plC]
  repeat' (first|refine vz ?_|(conv=>whnf); first|with_reducible first|refine Sp.mk ?_ ?_|refine br_d (fun _=>?_) fun _=>?_|refine vM (fun _=>?_) fun _=>?_)
  exact h _ ⟨(fun g=>by cases g),fun g=>absurd g hi⟩
def C222:=C220
theorem F222:FF 50 C222:=by
 refine fitX [(92,C219),(83,C35)] (by simp only [List.mem_cons,List.not_mem_nil,or_false]; rintro _ (rfl|rfl) <;> first|exact F219|exact F35) [] (by simp) Tryz.f50 ⟨rfl,by decide +kernel,by decide +kernel⟩ (fun _ _ _ hk h b q=>hk _ (h b q)) ?_
 rintro ⟨a,b,c⟩ K ⟨⟨h1,h2,h5⟩,h6⟩ h
 refine ⟨Nat.le_of_ble_eq_true rfl,?_⟩
 dsimp only [enSt,stC] at h1 h2 h5 h6 ⊢
 repeat' (first|refine vz ?_|(conv=>whnf); first|with_reducible first|refine Sp.mk ?_ ?_|refine br_d (fun _=>?_) fun _=>?_|refine vM (fun _=>?_) fun _=>?_)
 refine ⟨a,?_,⟨h6⟩,?_⟩
 ·exact wq
 refine ⟨fun x q=>?_,fun q=>?_⟩
 ·obtain ⟨p,bs,rs⟩:=x
  have hi:isSt ⟨a,b,c⟩ ↔ (b.size≤1000∧0≤c∧c≤b.size):=⟨fun g=>g.2,fun g=>⟨⟨_,q⟩,g⟩⟩
  dsimp only [enPl,plC]
  repeat' (first|refine vz ?_|(conv=>whnf); first|with_reducible first|refine Sp.mk ?_ ?_|refine br_d (fun _=>?_) fun _=>?_|refine vM (fun _=>?_) fun _=>?_)
  ·refine ⟨(c,0,(b.size:Int)),?_,⟨trivial⟩,?_⟩
   ·exact wq
   dsimp only
   repeat' (first|refine vz ?_|(conv=>whnf); first|with_reducible first|refine Sp.mk ?_ ?_|refine br_d (fun _=>?_) fun _=>?_|refine vM (fun _=>?_) fun _=>?_)
   exact h _ ⟨fun g=>hi.2 ⟨by omega,of_decide_eq_true g⟩,fun g=>decide_eq_true (hi.1 g).2⟩
  ·exact h _ ⟨(fun g=>by cases g),fun g=>by have:=hi.1 g; omega⟩
 ·have hi:¬ isSt ⟨a,b,c⟩:=fun g=>q g.1
  dsimp only [enPl,plC]
  repeat' (first|refine vz ?_|(conv=>whnf); first|with_reducible first|refine Sp.mk ?_ ?_|refine br_d (fun _=>?_) fun _=>?_|refine vM (fun _=>?_) fun _=>?_)
  exact h _ ⟨(fun g=>by cases g),fun g=>absurd g hi⟩
end Go.Proofs.YtapeebjjljohdaaGreatDoor.Vc
end
